/-
  The plain law of what is read: a tree has no more parts than twice its words.
-/
import Derived.Test.YtneohanphabneaaGreatDoorQ10
namespace Go.Proofs.YtneohanphabneaaGreatDoor.Pr
open Ps Sc
mutual
def wt : Tree → Nat
 | .node _ _ _ _ ts => 1 + wtL ts
def wtL : List Tree → Nat
 | [] => 0
 | t :: ts => wt t + wtL ts
end
theorem wtL_app : ∀ a b : List Tree,wtL (a ++ b) = wtL a + wtL b
 | [],b => by rw [List.nil_append]; simp only [wtL]; omega
 | t :: a,b => by rw [List.cons_append]; simp only [wtL]; rw [wtL_app a b]; omega
theorem wtL_one (t : Tree) : wtL [t] = wt t := by simp only [wtL]; omega
variable {l : List Tok}
theorem tn_wt {i j : Nat} {t : Tree} (h : Ps.typeName l i = .ok t j) : wt t + i ≤ j := by
 unfold Ps.typeName at h
 obtain ⟨_,h⟩ := inv_name h
 by_cases hw : isW l (i + 1) ⟨#[46]⟩ = true
 ·rw [if_pos hw] at h
  obtain ⟨_,h⟩ := inv_name h
  obtain ⟨rfl,rfl⟩ := inv_ok h
  simp only [wt,wtL]; omega
 ·rw [if_neg hw] at h
  obtain ⟨rfl,rfl⟩ := inv_ok h
  simp only [wt,wtL]; omega
def HW (f : Nat → R Tree) : Prop := ∀ i t j,f i = .ok t j → wt t + i ≤ j
def H1 (f : Nat → R Tree) : Prop := ∀ i t j,f i = .ok t j → wt t + i ≤ j + 1
theorem HW.h1 {f : Nat → R Tree} (h : HW f) : H1 f := fun i t j e => Nat.le_succ_of_le (h i t j e)
def H2 (c : Nat) (f : Nat → R Tree) : Prop := ∀ i t j,f i = .ok t j → wt t + 2 * i ≤ 2 * j + c
theorem step_wt {a i j : Nat} {d : Tree} {o : Option Tree} {ex : Nat → R Tree} (hx : HW ex) (h : Ps.step l ex a d i = .ok o j) : (o = none ∧ j = i) ∨ ∃ t,o = some t ∧ wt t + i ≤ wt d + j := by
 unfold Ps.step at h
 by_cases h1 : isW l i ⟨#[46]⟩ = true
 ·rw [if_pos h1] at h
  obtain ⟨_,h⟩ := inv_name h
  obtain ⟨rfl,rfl⟩ := inv_ok h
  exact .inr ⟨_,rfl,by simp only [wt,wtL]; omega⟩
 rw [if_neg h1] at h
 by_cases h2 : isW l i ⟨#[91]⟩ = true
 ·rw [if_pos h2] at h
  obtain ⟨t,k,ht,h⟩ := inv h
  obtain ⟨_,h⟩ := inv_must h
  obtain ⟨rfl,rfl⟩ := inv_ok h
  have := hx _ _ _ ht
  exact .inr ⟨_,rfl,by simp only [wt,wtL]; omega⟩
 rw [if_neg h2] at h
 by_cases h3 : isW l i ⟨#[94]⟩ = true
 ·rw [if_pos h3] at h
  obtain ⟨rfl,rfl⟩ := inv_ok h
  exact .inr ⟨_,rfl,by simp only [wt,wtL]; omega⟩
 rw [if_neg h3] at h
 by_cases h4 : isW l i ⟨#[123]⟩ = true
 ·rw [if_pos h4] at h
  obtain ⟨t,k,ht,h⟩ := inv h
  obtain ⟨_,h⟩ := inv_must h
  obtain ⟨rfl,rfl⟩ := inv_ok h
  have := tn_wt ht
  exact .inr ⟨_,rfl,by simp only [wt,wtL]; omega⟩
 rw [if_neg h4] at h
 obtain ⟨rfl,rfl⟩ := inv_ok h
 exact .inl ⟨rfl,rfl⟩
theorem desigLoop_wt {a : Nat} {ex : Nat → R Tree} (hx : HW ex) : ∀ (k : Nat) (d : Tree) (i : Nat) (t : Tree) (j : Nat),desigLoop l ex a k d i = .ok t j → wt t + i ≤ wt d + j
 | k,d,i,t,j,h => by
  rw [desigLoop] at h
  obtain ⟨o,i1,h1,h2⟩ := inv h
  clear h
  rcases step_wt hx h1 with ⟨rfl,rfl⟩ | ⟨d1,rfl,e1⟩
  ·obtain ⟨rfl,rfl⟩ := inv_ok h2
   omega
  ·cases k with
   | zero => cases h2
   | succ k =>
    have := desigLoop_wt hx k d1 i1 t j h2
    omega
theorem desig_wt {ex : Nat → R Tree} (hx : HW ex) : HW (desig l ex) := by
 intro i t j h
 unfold desig at h
 obtain ⟨_,h⟩ := inv_name h
 have := desigLoop_wt hx _ _ _ _ _ h
 simp only [wt,wtL] at this
 omega
theorem argsLoop_wt {ex : Nat → R Tree} (hx : HW ex) : ∀ (F i : Nat) (acc ts : List Tree) (j : Nat),argsLoop l ex F i acc = .ok ts j → wtL ts + i ≤ wtL acc + j
 | 0,i,acc,ts,j,h => by
  rw [argsLoop] at h
  obtain ⟨rfl,rfl⟩ := inv_ok h
  omega
 | F + 1,i,acc,ts,j,h => by
  rw [argsLoop] at h
  obtain ⟨t,k,ht,h⟩ := inv h
  have h1 := hx _ _ _ ht
  have e2 : wtL (acc ++ [t]) = wtL acc + wt t := by rw [wtL_app,wtL_one]
  by_cases hw : isW l k ⟨#[44]⟩ = true
  ·rw [if_pos hw] at h
   have := argsLoop_wt hx F _ _ _ _ h
   omega
  ·rw [if_neg hw] at h
   obtain ⟨rfl,rfl⟩ := inv_ok h
   omega
theorem args_wt {ex : Nat → R Tree} (hx : HW ex) {i j : Nat} {ts : List Tree} (h : args l ex i = .ok ts j) : wtL ts + i ≤ j := by
 unfold args at h
 by_cases h1 : isW l i ⟨#[40]⟩ = true
 ·rw [if_pos h1] at h
  by_cases h2 : isW l (i + 1) ⟨#[41]⟩ = true
  ·rw [if_pos h2] at h
   obtain ⟨rfl,rfl⟩ := inv_ok h
   simp only [wtL]; omega
  ·rw [if_neg h2] at h
   obtain ⟨us,k,hu,h⟩ := inv h
   obtain ⟨_,h⟩ := inv_must h
   obtain ⟨rfl,rfl⟩ := inv_ok h
   have := argsLoop_wt hx _ _ _ _ _ hu
   simp only [wtL] at this; omega
 ·rw [if_neg h1] at h
  obtain ⟨rfl,rfl⟩ := inv_ok h
  simp only [wtL]; omega
theorem number_wt {i j : Nat} {β : Type} {f : Nat → Nat → R β} {v : β} (h : (number l i).bind f = .ok v j) : ∃ n,f n (i + 1) = .ok v j := by
 unfold number at h
 by_cases hw : isNum (W l i) = true
 ·rw [if_pos hw] at h
  exact ⟨_,h⟩
 ·rw [if_neg hw] at h; cases h
theorem factor_wt {ex down : Nat → R Tree} (hx : HW ex) (hd : HW down) : HW (factorOf l ex down) := by
 intro i t j h
 unfold factorOf at h
 by_cases h1 : isNum (W l i) = true
 ·rw [if_pos h1] at h
  obtain ⟨n,h⟩ := number_wt h
  obtain ⟨rfl,rfl⟩ := inv_ok h
  simp only [wt,wtL]; omega
 rw [if_neg h1] at h
 by_cases h2 : isW l i ⟨#[84,82,85,69]⟩ = true
 ·rw [if_pos h2] at h
  obtain ⟨rfl,rfl⟩ := inv_ok h
  simp only [wt,wtL]; omega
 rw [if_neg h2] at h
 by_cases h3 : isW l i ⟨#[70,65,76,83,69]⟩ = true
 ·rw [if_pos h3] at h
  obtain ⟨rfl,rfl⟩ := inv_ok h
  simp only [wt,wtL]; omega
 rw [if_neg h3] at h
 by_cases h4 : isW l i ⟨#[78,73,76]⟩ = true
 ·rw [if_pos h4] at h
  obtain ⟨rfl,rfl⟩ := inv_ok h
  simp only [wt,wtL]; omega
 rw [if_neg h4] at h
 by_cases h5 : isW l i ⟨#[126]⟩ = true
 ·rw [if_pos h5] at h
  obtain ⟨x,k,hk,h⟩ := inv h
  obtain ⟨rfl,rfl⟩ := inv_ok h
  have := hd _ _ _ hk
  simp only [wt,wtL]; omega
 rw [if_neg h5] at h
 by_cases h6 : isW l i ⟨#[40]⟩ = true
 ·rw [if_pos h6] at h
  obtain ⟨x,k,hk,h⟩ := inv h
  obtain ⟨_,h⟩ := inv_must h
  obtain ⟨rfl,rfl⟩ := inv_ok h
  have := hx _ _ _ hk
  omega
 rw [if_neg h6] at h
 obtain ⟨d,k,hk,h⟩ := inv h
 have hd := desig_wt hx _ _ _ hk
 by_cases h7 : isW l k ⟨#[40]⟩ = true
 ·rw [if_pos h7] at h
  obtain ⟨ts,k2,hk2,h⟩ := inv h
  obtain ⟨rfl,rfl⟩ := inv_ok h
  have := args_wt hx hk2
  unfold args at hk2
  rw [if_pos h7] at hk2
  have h9 : k + 1 + wtL ts ≤ j := by
   by_cases h2 : isW l (k + 1) ⟨#[41]⟩ = true
   ·rw [if_pos h2] at hk2
    obtain ⟨rfl,rfl⟩ := inv_ok hk2
    simp only [wtL]; omega
   ·rw [if_neg h2] at hk2
    obtain ⟨us,k3,hu,hk2⟩ := inv hk2
    obtain ⟨_,hk2⟩ := inv_must hk2
    obtain ⟨rfl,rfl⟩ := inv_ok hk2
    have := argsLoop_wt hx _ _ _ _ _ hu
    simp only [wtL] at this; omega
  simp only [wt,wtL]; omega
 ·rw [if_neg h7] at h
  obtain ⟨rfl,rfl⟩ := inv_ok h
  exact hd
theorem chain_wt {lev : Nat} {f : Nat → R Tree} (hf : HW f) : ∀ (k : Nat) (a : Tree) (i : Nat) (t : Tree) (j : Nat),chain l lev f k a i = .ok t j → wt t + i ≤ wt a + j
 | k,a,i,t,j,h => by
  unfold chain at h
  by_cases ho : isOp l lev i = true
  ·rw [if_pos ho] at h
   cases k with
   | zero => cases h
   | succ k =>
    obtain ⟨b,i1,hb,h⟩ := inv h
    have h1 := hf _ _ _ hb
    have := chain_wt hf k _ i1 t j h
    simp only [wt,wtL] at this
    omega
  ·rw [if_neg ho] at h
   obtain ⟨rfl,rfl⟩ := inv_ok h
   omega
theorem term_wt {fac : Nat → R Tree} (hf : HW fac) : HW (term l fac) := by
 intro i t j h
 unfold term at h
 obtain ⟨a,k,ha,h⟩ := inv h
 have h1 := hf _ _ _ ha
 have := chain_wt hf _ _ _ _ _ h
 omega
theorem simple_wt {fac : Nat → R Tree} (hf : HW fac) : HW (simple l fac) := by
 intro i t j h
 unfold simple at h
 by_cases hw : isW l i ⟨#[45]⟩ = true
 ·rw [if_pos hw] at h
  obtain ⟨a,k,ha,h⟩ := inv h
  have h1 := term_wt hf _ _ _ ha
  have := chain_wt (term_wt hf) _ _ _ _ _ h
  simp only [wt,wtL] at this
  omega
 ·rw [if_neg hw] at h
  obtain ⟨a,k,ha,h⟩ := inv h
  have h1 := term_wt hf _ _ _ ha
  have := chain_wt (term_wt hf) _ _ _ _ _ h
  omega
theorem exprOf_wt {fac : Nat → R Tree} (hf : HW fac) : HW (exprOf l fac) := by
 intro i t j h
 unfold exprOf at h
 obtain ⟨a,k,ha,h⟩ := inv h
 have h1 := simple_wt hf _ _ _ ha
 by_cases h2 : isW l k ⟨#[73,83]⟩ = true
 ·rw [if_pos h2] at h
  obtain ⟨y,k2,hy,h⟩ := inv h
  obtain ⟨rfl,rfl⟩ := inv_ok h
  have := tn_wt hy
  simp only [wt,wtL]; omega
 rw [if_neg h2] at h
 by_cases h3 : isOp l 0 k = true
 ·rw [if_pos h3] at h
  obtain ⟨b,k2,hb,h⟩ := inv h
  obtain ⟨rfl,rfl⟩ := inv_ok h
  have := simple_wt hf _ _ _ hb
  simp only [wt,wtL]; omega
 ·rw [if_neg h3] at h
  obtain ⟨rfl,rfl⟩ := inv_ok h
  exact h1
theorem F_wt : ∀ L,HW (F l L)
 | 0 => factor_wt (fun _ _ _ h => by cases h) (fun _ _ _ h => by cases h)
 | L + 1 => factor_wt (exprOf_wt (F_wt L)) (F_wt L)
theorem E_wt : ∀ L,HW (E l L)
 | 0 => fun _ _ _ h => by cases h
 | L + 1 => exprOf_wt (F_wt L)
theorem ifLoop_wt {ex sts : Nat → R Tree} (hx : HW ex) (hs : H2 1 sts) : ∀ (G i : Nat) (acc ts : List Tree) (j : Nat),ifLoop l ex sts G i acc = .ok ts j → wtL ts + 2 * i ≤ wtL acc + 2 * j
 | 0,i,acc,ts,j,h => by
  rw [ifLoop] at h
  obtain ⟨rfl,rfl⟩ := inv_ok h
  omega
 | G + 1,i,acc,ts,j,h => by
  rw [ifLoop] at h
  obtain ⟨c,i1,hc,h⟩ := inv h
  obtain ⟨_,h⟩ := inv_must h
  obtain ⟨b,i3,hb,h⟩ := inv h
  have h1 := hx _ _ _ hc
  have h2 := hs _ _ _ hb
  have e : wtL (acc ++ [c,b]) = wtL acc + (wt c + wt b) := by rw [wtL_app]; simp only [wtL]; omega
  by_cases hw : isW l i3 ⟨#[69,76,83,73,70]⟩ = true
  ·rw [if_pos hw] at h
   have := ifLoop_wt hx hs G _ _ _ _ h
   omega
  ·rw [if_neg hw] at h
   obtain ⟨rfl,rfl⟩ := inv_ok h
   omega
theorem built_wt {kind a : Nat} {what : Nat → R Tree} (hw : HW what) {i j : Nat} {t : Tree} (h : Ps.built l kind a what i = .ok t j) : wt t + i + 1 ≤ j := by
 unfold Ps.built at h
 obtain ⟨_,h⟩ := inv_must h
 obtain ⟨x,k,hx,h⟩ := inv h
 obtain ⟨_,h⟩ := inv_must h
 obtain ⟨rfl,rfl⟩ := inv_ok h
 have := hw _ _ _ hx
 simp only [wt,wtL]; omega
theorem wt_pos (t : Tree) : 1 ≤ wt t := by cases t; simp only [wt]; omega
theorem stmt_wt {L : Nat} (hs : H2 1 (S l L)) : H2 0 (stmtOf l (E l L) (S l L)) := by
 intro i t j h
 have hx := E_wt (l := l) L
 have hd := desig_wt (l := l) hx
 unfold stmtOf at h
 by_cases h1 : isW l i ⟨#[73,70]⟩ = true
 ·rw [if_pos h1] at h
  obtain ⟨ts,i1,ht,h⟩ := inv h
  have g1 := ifLoop_wt hx hs _ _ _ _ _ ht
  simp only [wtL] at g1
  unfold elseR at h
  by_cases h2 : isW l i1 ⟨#[69,76,83,69]⟩ = true
  ·rw [if_pos h2] at h
   obtain ⟨b,k,hb,h⟩ := inv h
   obtain ⟨_,h⟩ := inv_must h
   obtain ⟨rfl,rfl⟩ := inv_ok h
   have := hs _ _ _ hb
   simp only [wt,wtL_app,wtL]; omega
  ·rw [if_neg h2] at h
   obtain ⟨_,h⟩ := inv_must h
   obtain ⟨rfl,rfl⟩ := inv_ok h
   simp only [wt]; omega
 rw [if_neg h1] at h
 by_cases h2 : isW l i ⟨#[87,72,73,76,69]⟩ = true
 ·rw [if_pos h2] at h
  obtain ⟨c,k,hc,h⟩ := inv h
  obtain ⟨_,h⟩ := inv_must h
  obtain ⟨b,k2,hb,h⟩ := inv h
  obtain ⟨_,h⟩ := inv_must h
  obtain ⟨rfl,rfl⟩ := inv_ok h
  have := hx _ _ _ hc
  have := hs _ _ _ hb
  simp only [wt,wtL]; omega
 rw [if_neg h2] at h
 by_cases h3 : isW l i ⟨#[82,69,80,69,65,84]⟩ = true
 ·rw [if_pos h3] at h
  obtain ⟨b,k,hb,h⟩ := inv h
  obtain ⟨_,h⟩ := inv_must h
  obtain ⟨c,k2,hc,h⟩ := inv h
  obtain ⟨rfl,rfl⟩ := inv_ok h
  have := hx _ _ _ hc
  have := hs _ _ _ hb
  simp only [wt,wtL]; omega
 rw [if_neg h3] at h
 by_cases h4 : isW l i ⟨#[82,69,84,85,82,78]⟩ = true
 ·rw [if_pos h4] at h
  by_cases h5 : noStmt l (i + 1) = true
  ·rw [if_pos h5] at h
   obtain ⟨rfl,rfl⟩ := inv_ok h
   simp only [wt,wtL]; omega
  ·rw [if_neg h5] at h
   obtain ⟨x,k,hk,h⟩ := inv h
   obtain ⟨rfl,rfl⟩ := inv_ok h
   have := hx _ _ _ hk
   simp only [wt,wtL]; omega
 rw [if_neg h4] at h
 by_cases h5 : isW l i ⟨#[78,69,87]⟩ = true
 ·rw [if_pos h5] at h
  have := built_wt hd h
  omega
 rw [if_neg h5] at h
 by_cases h6 : isW l i ⟨#[79,85,84]⟩ = true
 ·rw [if_pos h6] at h
  have := built_wt hx h
  omega
 rw [if_neg h6] at h
 by_cases h7 : isW l i ⟨#[71,69,84]⟩ = true
 ·rw [if_pos h7] at h
  have := built_wt hd h
  omega
 rw [if_neg h7] at h
 by_cases h8 : isW l i ⟨#[65,83,83,69,82,84]⟩ = true
 ·rw [if_pos h8] at h
  have := built_wt hx h
  omega
 rw [if_neg h8] at h
 obtain ⟨d,k,hdk,h⟩ := inv h
 have g1 := hd _ _ _ hdk
 have g2 := wt_pos d
 by_cases h9 : isW l k ⟨#[58,61]⟩ = true
 ·rw [if_pos h9] at h
  obtain ⟨x,k2,hk,h⟩ := inv h
  obtain ⟨rfl,rfl⟩ := inv_ok h
  have := hx _ _ _ hk
  simp only [wt,wtL]; omega
 ·rw [if_neg h9] at h
  obtain ⟨ts,k2,hk,h⟩ := inv h
  obtain ⟨rfl,rfl⟩ := inv_ok h
  have := args_wt hx hk
  simp only [wt,wtL]; omega
theorem stmtsLoop_wt {st : Nat → R Tree} (hs : H2 0 st) : ∀ (G i : Nat) (acc ts : List Tree) (j : Nat),stmtsLoop l st G i acc = .ok ts j → wtL ts + 2 * i ≤ wtL acc + 2 * j
 | 0,i,acc,ts,j,h => by
  rw [stmtsLoop] at h
  obtain ⟨rfl,rfl⟩ := inv_ok h
  omega
 | G + 1,i,acc,ts,j,h => by
  rw [stmtsLoop] at h
  by_cases h1 : noStmt l i = true
  ·rw [if_pos h1] at h
   by_cases h2 : isW l i ⟨#[59]⟩ = true
   ·rw [if_pos h2] at h
    have := stmtsLoop_wt hs G _ _ _ _ h
    omega
   ·rw [if_neg h2] at h
    obtain ⟨rfl,rfl⟩ := inv_ok h
    omega
  ·rw [if_neg h1] at h
   obtain ⟨t,k,ht,h⟩ := inv h
   have h3 := hs _ _ _ ht
   have e : wtL (acc ++ [t]) = wtL acc + wt t := by rw [wtL_app,wtL_one]
   by_cases h2 : isW l k ⟨#[59]⟩ = true
   ·rw [if_pos h2] at h
    have := stmtsLoop_wt hs G _ _ _ _ h
    omega
   ·rw [if_neg h2] at h
    obtain ⟨rfl,rfl⟩ := inv_ok h
    omega
theorem S_wt : ∀ L,H2 1 (S l L)
 | 0 => fun _ _ _ h => by cases h
 | L + 1 => fun i t j h => by
  rw [S] at h
  unfold stmtsOf at h
  obtain ⟨ts,k,ht,h⟩ := inv h
  obtain ⟨rfl,rfl⟩ := inv_ok h
  have := stmtsLoop_wt (stmt_wt (S_wt L)) _ _ _ _ _ ht
  simp only [wtL] at this
  simp only [wt]; omega
theorem star_ge (s : ByteArray) (i : Nat) : i ≤ (Ps.star l s i).2 := by
 unfold Ps.star
 split
 ·exact Nat.le_succ _
 ·exact Nat.le_refl _
theorem declared_wt {kind : Nat} {sign : ByteArray} {what : Nat → R Tree} (hw : H1 what) : HW (declared l kind sign what) := by
 intro i t j h
 unfold declared at h
 obtain ⟨_,h⟩ := inv_name h
 obtain ⟨_,h⟩ := inv_must h
 obtain ⟨x,k,hx,h⟩ := inv h
 obtain ⟨rfl,rfl⟩ := inv_ok h
 have := hw _ _ _ hx
 have := star_ge (l := l) ⟨#[42]⟩ (i + 1)
 simp only [wt,wtL]; omega
theorem sectionLoop_wt {one : Nat → R Tree} (hs : HW one) : ∀ (G i : Nat) (acc ts : List Tree) (j : Nat),sectionLoop l one G i acc = .ok ts j → wtL ts + i ≤ wtL acc + j
 | 0,i,acc,ts,j,h => by
  rw [sectionLoop] at h
  obtain ⟨rfl,rfl⟩ := inv_ok h
  omega
 | G + 1,i,acc,ts,j,h => by
  rw [sectionLoop] at h
  by_cases h1 : isName (W l i) = true
  ·rw [if_pos h1] at h
   obtain ⟨t,k,ht,h⟩ := inv h
   obtain ⟨_,h⟩ := inv_must h
   have g1 := hs _ _ _ ht
   have g2 := sectionLoop_wt hs G _ _ _ _ h
   rw [wtL_app,wtL_one] at g2
   omega
  ·rw [if_neg h1] at h
   obtain ⟨rfl,rfl⟩ := inv_ok h
   omega
theorem section_wt {word : ByteArray} {one : Nat → R Tree} (hs : HW one) {i j : Nat} {t : Tree} (h : Ps.section_ l word one i = .ok t j) : wt t + i ≤ j + 1 := by
 unfold Ps.section_ at h
 by_cases h1 : isW l i word = true
 ·rw [if_pos h1] at h
  obtain ⟨ts,k,ht,h⟩ := inv h
  obtain ⟨rfl,rfl⟩ := inv_ok h
  have := sectionLoop_wt hs _ _ _ _ _ ht
  simp only [wtL] at this
  simp only [wt]; omega
 ·rw [if_neg h1] at h
  obtain ⟨rfl,rfl⟩ := inv_ok h
  simp only [wt,wtL]; omega
theorem base_wt {i j : Nat} {t : Tree} (h : baseR l i = .ok t j) : wt t + i ≤ j + 1 := by
 unfold baseR at h
 by_cases h1 : isW l i ⟨#[40]⟩ = true
 ·rw [if_pos h1] at h
  obtain ⟨x,k,hx,h⟩ := inv h
  obtain ⟨_,h⟩ := inv_must h
  obtain ⟨rfl,rfl⟩ := inv_ok h
  have := tn_wt hx
  omega
 ·rw [if_neg h1] at h
  obtain ⟨rfl,rfl⟩ := inv_ok h
  simp only [wt,wtL]; omega
theorem fieldsLoop_wt : ∀ (G i : Nat) (acc ts : List Tree) (j : Nat),fieldsLoop l G i acc = .ok ts j → wtL ts + i ≤ wtL acc + j
 | 0,i,acc,ts,j,h => by
  rw [fieldsLoop] at h
  obtain ⟨rfl,rfl⟩ := inv_ok h
  omega
 | G + 1,i,acc,ts,j,h => by
  rw [fieldsLoop] at h
  by_cases h1 : isW l i ⟨#[69,78,68]⟩ = true
  ·rw [if_pos h1] at h
   obtain ⟨rfl,rfl⟩ := inv_ok h
   omega
  ·rw [if_neg h1] at h
   obtain ⟨t,k,ht,h⟩ := inv h
   obtain ⟨_,h⟩ := inv_must h
   have g1 := declared_wt (l := l) (fun _ _ _ h => Nat.le_succ_of_le (tn_wt h)) _ _ _ ht
   have g2 := fieldsLoop_wt G _ _ _ _ h
   rw [wtL_app,wtL_one] at g2
   omega
theorem typ_wt : H1 (Ps.typ l) := by
 intro i t j h
 unfold Ps.typ at h
 by_cases h1 : isW l i ⟨#[65,82,82,65,89]⟩ = true
 ·rw [if_pos h1] at h
  obtain ⟨n,h⟩ := number_wt h
  obtain ⟨_,h⟩ := inv_must h
  obtain ⟨x,k,hx,h⟩ := inv h
  obtain ⟨rfl,rfl⟩ := inv_ok h
  have := tn_wt hx
  simp only [wt,wtL]; omega
 rw [if_neg h1] at h
 by_cases h2 : isW l i ⟨#[80,79,73,78,84,69,82]⟩ = true
 ·rw [if_pos h2] at h
  obtain ⟨_,h⟩ := inv_must h
  obtain ⟨x,k,hx,h⟩ := inv h
  obtain ⟨rfl,rfl⟩ := inv_ok h
  have := tn_wt hx
  simp only [wt,wtL]; omega
 rw [if_neg h2] at h
 by_cases h3 : isW l i ⟨#[82,69,67,79,82,68]⟩ = true
 ·rw [if_pos h3] at h
  obtain ⟨b,k,hb,h⟩ := inv h
  obtain ⟨ts,k2,hts,h⟩ := inv h
  obtain ⟨rfl,rfl⟩ := inv_ok h
  have g1 := base_wt hb
  have g2 := fieldsLoop_wt (l := l) _ _ _ _ _ hts
  rw [wtL_one] at g2
  simp only [wt]; omega
 ·rw [if_neg h3] at h
  cases h
theorem tn_HW : HW (Ps.typeName l) := fun _ _ _ h => tn_wt h
theorem variable_wt : HW (Ps.variable_ l) := by
 intro i t j h
 unfold Ps.variable_ at h
 obtain ⟨_,h⟩ := inv_name h
 obtain ⟨_,h⟩ := inv_must h
 obtain ⟨x,k,hx,h⟩ := inv h
 obtain ⟨rfl,rfl⟩ := inv_ok h
 have := tn_wt hx
 simp only [wt,wtL]; omega
theorem param_wt : HW (Ps.param l) := by
 intro i t j h
 unfold Ps.param at h
 obtain ⟨_,h⟩ := inv_name h
 obtain ⟨_,h⟩ := inv_must h
 obtain ⟨x,k,hx,h⟩ := inv h
 obtain ⟨rfl,rfl⟩ := inv_ok h
 have := tn_wt hx
 have := star_ge (l := l) ⟨#[86,65,82]⟩ i
 simp only [wt,wtL]; omega
theorem paramsLoop_wt : ∀ (G i : Nat) (acc ts : List Tree) (j : Nat),paramsLoop l G i acc = .ok ts j → wtL ts + i ≤ wtL acc + j
 | 0,i,acc,ts,j,h => by
  rw [paramsLoop] at h
  obtain ⟨rfl,rfl⟩ := inv_ok h
  omega
 | G + 1,i,acc,ts,j,h => by
  rw [paramsLoop] at h
  obtain ⟨t,k,ht,h⟩ := inv h
  have g1 := param_wt _ _ _ ht
  have e : wtL (acc ++ [t]) = wtL acc + wt t := by rw [wtL_app,wtL_one]
  by_cases h1 : isW l k ⟨#[59]⟩ = true
  ·rw [if_pos h1] at h
   have := paramsLoop_wt G _ _ _ _ h
   omega
  ·rw [if_neg h1] at h
   obtain ⟨rfl,rfl⟩ := inv_ok h
   omega
theorem params_wt : H1 (Ps.params l) := by
 intro i t j h
 unfold Ps.params at h
 by_cases h1 : isW l i ⟨#[40]⟩ = true
 ·rw [if_pos h1] at h
  by_cases h2 : isW l (i + 1) ⟨#[41]⟩ = true
  ·rw [if_pos h2] at h
   obtain ⟨rfl,rfl⟩ := inv_ok h
   simp only [wt,wtL]; omega
  ·rw [if_neg h2] at h
   obtain ⟨ts,k,ht,h⟩ := inv h
   obtain ⟨_,h⟩ := inv_must h
   obtain ⟨rfl,rfl⟩ := inv_ok h
   have := paramsLoop_wt _ _ _ _ _ ht
   simp only [wtL] at this
   simp only [wt]; omega
 ·rw [if_neg h1] at h
  obtain ⟨rfl,rfl⟩ := inv_ok h
  simp only [wt,wtL]; omega
theorem result_wt : H1 (Ps.result l) := by
 intro i t j h
 unfold Ps.result at h
 by_cases h1 : isW l i ⟨#[58]⟩ = true
 ·rw [if_pos h1] at h
  have := tn_wt h
  omega
 ·rw [if_neg h1] at h
  obtain ⟨rfl,rfl⟩ := inv_ok h
  simp only [wt,wtL]; omega
theorem inv_ends {nm : ByteArray} {i j : Nat} {β : Type} {f : Unit → Nat → R β} {v : β} (h : (ends l nm i).bind f = .ok v j) : f () (i + 2) = .ok v j := by
 unfold ends at h
 obtain ⟨u,k,hu,h⟩ := inv h
 obtain ⟨_,hu⟩ := inv_must hu
 obtain rfl := must_ok hu
 exact h
theorem proc_wt : H2 0 (Ps.proc l) := by
 intro i t j h
 unfold Ps.proc at h
 obtain ⟨_,h⟩ := inv_must h
 obtain ⟨_,h⟩ := inv_name h
 obtain ⟨ps,k1,h1,h⟩ := inv h
 obtain ⟨r,k2,h2,h⟩ := inv h
 obtain ⟨_,h⟩ := inv_must h
 obtain ⟨vs,k3,h3,h⟩ := inv h
 obtain ⟨_,h⟩ := inv_must h
 obtain ⟨b,k4,h4,h⟩ := inv h
 have h := inv_ends h
 obtain ⟨rfl,rfl⟩ := inv_ok h
 have g1 := params_wt _ _ _ h1
 have g2 := result_wt _ _ _ h2
 have g3 := section_wt (fun _ _ _ h => variable_wt _ _ _ h) h3
 have g4 := S_wt _ _ _ _ h4
 have g5 := star_ge (l := l) ⟨#[42]⟩ (i + 1 + 1)
 simp only [wt,wtL]; omega
theorem importsLoop_wt : ∀ (G i : Nat) (acc ts : List Tree) (j : Nat),importsLoop l G i acc = .ok ts j → wtL ts + i ≤ wtL acc + j
 | 0,i,acc,ts,j,h => by
  rw [importsLoop] at h
  obtain ⟨rfl,rfl⟩ := inv_ok h
  omega
 | G + 1,i,acc,ts,j,h => by
  rw [importsLoop] at h
  obtain ⟨_,h⟩ := inv_name h
  have e : wtL (acc ++ [.node 3 (W l i) 0 (A l i) []]) = wtL acc + 1 := by rw [wtL_app]; simp only [wt,wtL]
  by_cases h1 : isW l (i + 1) ⟨#[44]⟩ = true
  ·rw [if_pos h1] at h
   have := importsLoop_wt G _ _ _ _ h
   omega
  ·rw [if_neg h1] at h
   obtain ⟨rfl,rfl⟩ := inv_ok h
   omega
theorem imports_wt : H1 (Ps.imports l) := by
 intro i t j h
 unfold Ps.imports at h
 by_cases h1 : isW l i ⟨#[73,77,80,79,82,84]⟩ = true
 ·rw [if_pos h1] at h
  obtain ⟨ts,k,ht,h⟩ := inv h
  obtain ⟨_,h⟩ := inv_must h
  obtain ⟨rfl,rfl⟩ := inv_ok h
  have := importsLoop_wt _ _ _ _ _ ht
  simp only [wtL] at this
  simp only [wt]; omega
 ·rw [if_neg h1] at h
  obtain ⟨rfl,rfl⟩ := inv_ok h
  simp only [wt,wtL]; omega
theorem procsLoop_wt : ∀ (G i : Nat) (acc ts : List Tree) (j : Nat),procsLoop l G i acc = .ok ts j → wtL ts + 2 * i ≤ wtL acc + 2 * j
 | 0,i,acc,ts,j,h => by
  rw [procsLoop] at h
  obtain ⟨rfl,rfl⟩ := inv_ok h
  omega
 | G + 1,i,acc,ts,j,h => by
  rw [procsLoop] at h
  by_cases h1 : isW l i ⟨#[80,82,79,67,69,68,85,82,69]⟩ = true
  ·rw [if_pos h1] at h
   obtain ⟨t,k,ht,h⟩ := inv h
   obtain ⟨_,h⟩ := inv_must h
   have g1 := proc_wt _ _ _ ht
   have g2 := procsLoop_wt G _ _ _ _ h
   rw [wtL_app,wtL_one] at g2
   omega
  ·rw [if_neg h1] at h
   obtain ⟨rfl,rfl⟩ := inv_ok h
   omega
theorem procs_wt : H2 1 (Ps.procs l) := by
 intro i t j h
 unfold Ps.procs at h
 obtain ⟨ts,k,ht,h⟩ := inv h
 obtain ⟨rfl,rfl⟩ := inv_ok h
 have := procsLoop_wt _ _ _ _ _ ht
 simp only [wtL] at this
 simp only [wt]; omega
theorem body_wt : H2 1 (Ps.body l) := by
 intro i t j h
 unfold Ps.body at h
 by_cases h1 : isW l i ⟨#[66,69,71,73,78]⟩ = true
 ·rw [if_pos h1] at h
  have := S_wt _ _ _ _ h
  omega
 ·rw [if_neg h1] at h
  obtain ⟨rfl,rfl⟩ := inv_ok h
  simp only [wt,wtL]; omega
theorem W_lt {i : Nat} {s : ByteArray} (h : W l i = s) (hs : s ≠ ⟨#[]⟩) : i < l.length := by
 rcases Nat.lt_or_ge i l.length with h1 | h1
 ·exact h1
 ·unfold W at h
  rw [List.getElem?_eq_none h1] at h
  exact absurd h.symm hs
theorem module_wt {i j : Nat} {t : Tree} (h : Ps.module l i = .ok t j) : wt t + 2 * i ≤ 2 * j ∧ j ≤ l.length := by
 unfold Ps.module at h
 obtain ⟨_,h⟩ := inv_must h
 obtain ⟨_,h⟩ := inv_name h
 obtain ⟨_,h⟩ := inv_must h
 obtain ⟨im,k1,h1,h⟩ := inv h
 obtain ⟨cs,k2,h2,h⟩ := inv h
 obtain ⟨ty,k3,h3,h⟩ := inv h
 obtain ⟨vs,k4,h4,h⟩ := inv h
 obtain ⟨ps,k5,h5,h⟩ := inv h
 obtain ⟨b,k6,h6,h⟩ := inv h
 have h := inv_ends h
 obtain ⟨hw,h⟩ := inv_must h
 obtain ⟨rfl,rfl⟩ := inv_ok h
 have g1 := imports_wt _ _ _ h1
 have g2 := section_wt (declared_wt (E_wt 20).h1) h2
 have g3 := section_wt (declared_wt typ_wt) h3
 have g4 := section_wt (declared_wt (HW.h1 tn_HW)) h4
 have g5 := procs_wt _ _ _ h5
 have g6 := body_wt _ _ _ h6
 have g7 := W_lt hw (by decide)
 refine ⟨?_,by omega⟩
 simp only [wt,wtL]; omega
theorem tree_wt {j : Nat} {t : Tree} (h : Ps.tree l = .ok t j) : wt t ≤ 2 * l.length := by
 unfold Ps.tree at h
 obtain ⟨u,k,hu,h⟩ := inv h
 by_cases h1 : isW l k ⟨#[]⟩ = true
 ·rw [if_pos h1] at h
  obtain ⟨rfl,rfl⟩ := inv_ok h
  obtain ⟨g1,g2⟩ := module_wt hu
  omega
 ·rw [if_neg h1] at h
  cases h
end Go.Proofs.YtneohanphabneaaGreatDoor.Pr
