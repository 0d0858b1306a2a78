/-
  The plain law of what is read: a module's tree can be read back, if no more than twenty operators stand together in its text.
-/
import Derived.Test.YtneohanphabneaaGreatDoorQ9
namespace Go.Proofs.YtneohanphabneaaGreatDoor.Pr
open Ps Sc
variable {l : List Tok}
theorem Psq.of {L : Nat} : ∀ ts : List Tree,(∀ t ∈ ts,Pst L t) → Psq L ts
 | [],_ => .nil
 | t :: ts,h => .cons (h t List.mem_cons_self) (Psq.of ts fun u hu => h u (List.mem_cons_of_mem _ hu))
theorem Pi.of0 {L : Nat} : ∀ ps : List (Tree × Tree),ps ≠ [] → (∀ p ∈ ps,Xe L p.1 ∧ Pb L p.2) → Pi L 0 (ps.flatMap fun p => [p.1,p.2])
 | [],h,_ => absurd rfl h
 | [p],_,h => .last (h p List.mem_cons_self).1 (h p List.mem_cons_self).2
 | p :: q :: r,_,h => .more (h p List.mem_cons_self).1 (h p List.mem_cons_self).2 (Pi.of0 (q :: r) (by simp) fun x hx => h x (List.mem_cons_of_mem _ hx))
theorem Pi.of1 {L : Nat} {e : Tree} (he : Pb L e) : ∀ ps : List (Tree × Tree),ps ≠ [] → (∀ p ∈ ps,Xe L p.1 ∧ Pb L p.2) → Pi L 1 ((ps.flatMap fun p => [p.1,p.2]) ++ [e])
 | [],h,_ => absurd rfl h
 | [p],_,h => .els (h p List.mem_cons_self).1 (h p List.mem_cons_self).2 he
 | p :: q :: r,_,h => .more (h p List.mem_cons_self).1 (h p List.mem_cons_self).2 (Pi.of1 he (q :: r) (by simp) fun x hx => h x (List.mem_cons_of_mem _ hx))
theorem ifLoop_ok {L : Nat} {ex sts : Nat → R Tree} (hx : ∀ i t j,ex i = .ok t j → Xe L t) (hs : ∀ i t j,sts i = .ok t j → Pb L t) :
  ∀ (G i : Nat) (acc : List (Tree × Tree)) (ts : List Tree) (j : Nat),ifLoop l ex sts G i (acc.flatMap fun p => [p.1,p.2]) = .ok ts j → (∀ p ∈ acc,Xe L p.1 ∧ Pb L p.2) → ∃ ps,(acc ≠ [] ∨ 0 < G → ps ≠ []) ∧ ts = ps.flatMap (fun p : Tree × Tree => [p.1,p.2]) ∧ ∀ p ∈ ps,Xe L p.1 ∧ Pb L p.2
 | 0,i,acc,ts,j,h,ha => by
  rw [ifLoop] at h
  obtain ⟨rfl,rfl⟩ := inv_ok h
  exact ⟨acc,fun h => by rcases h with h | h; exact h; omega,rfl,ha⟩
 | G + 1,i,acc,ts,j,h,ha => by
  rw [ifLoop] at h
  obtain ⟨c,i1,hc,h⟩ := inv h
  obtain ⟨_,h⟩ := inv_must h
  obtain ⟨b,i3,hb,h⟩ := inv h
  have hp : ∀ p ∈ acc ++ [(c,b)],Xe L p.1 ∧ Pb L p.2 := fun p hp => by
   rcases List.mem_append.1 hp with hp | hp
   ·exact ha p hp
   ·obtain rfl := List.mem_singleton.1 hp
    exact ⟨hx _ _ _ hc,hs _ _ _ hb⟩
  have e : (acc.flatMap fun p => [p.1,p.2]) ++ [c,b] = (acc ++ [(c,b)]).flatMap fun p => [p.1,p.2] := by simp [List.flatMap_append]
  rw [e] at h
  by_cases hw : isW l i3 ⟨#[69,76,83,73,70]⟩ = true
  ·rw [if_pos hw] at h
   obtain ⟨ps,h1,h2⟩ := ifLoop_ok hx hs G _ _ _ _ h hp
   exact ⟨ps,fun _ => h1 (.inl (by simp)),h2⟩
  ·rw [if_neg hw] at h
   obtain ⟨rfl,rfl⟩ := inv_ok h
   exact ⟨_,fun _ => by simp,rfl,hp⟩
theorem built_ok {kind a : Nat} {what : Nat → R Tree} {i j : Nat} {t : Tree} (h : Ps.built l kind a what i = .ok t j) : ∃ x i1 i2,what i1 = .ok x i2 ∧ t = .node kind ⟨#[]⟩ 0 a [x] := by
 unfold Ps.built at h
 obtain ⟨_,h⟩ := inv_must h
 obtain ⟨x,k,hx,h⟩ := inv h
 obtain ⟨_,h⟩ := inv_must h
 obtain ⟨rfl,rfl⟩ := inv_ok h
 exact ⟨x,_,_,hx,rfl⟩
theorem stmt_ok (hg : Good l) (hf : Few l) (hpos : 0 < l.length) {L : Nat} (hs : ∀ i t j,S l L i = .ok t j → Pb L t) {i j : Nat} {t : Tree} (h : stmtOf l (E l L) (S l L) i = .ok t j) : Pst L t := by
 have hx : ∀ i t j,E l L i = .ok t j → Xe L t := fun _ _ _ h => Xe_ok hg hf h
 unfold stmtOf at h
 by_cases h1 : isW l i ⟨#[73,70]⟩ = true
 ·rw [if_pos h1] at h
  obtain ⟨ts,i1,ht,h⟩ := inv h
  obtain ⟨ps,p1,rfl,p3⟩ := ifLoop_ok hx hs _ _ [] _ _ ht (fun _ hp => by cases hp)
  have p1 := p1 (.inr hpos)
  unfold elseR at h
  by_cases h2 : isW l i1 ⟨#[69,76,83,69]⟩ = true
  ·rw [if_pos h2] at h
   obtain ⟨b,k,hb,h⟩ := inv h
   obtain ⟨_,h⟩ := inv_must h
   obtain ⟨rfl,rfl⟩ := inv_ok h
   exact .ifs (Pi.of1 (hs _ _ _ hb) ps p1 p3)
  ·rw [if_neg h2] at h
   obtain ⟨_,h⟩ := inv_must h
   obtain ⟨rfl,rfl⟩ := inv_ok h
   exact .ifs (Pi.of0 ps p1 p3)
 rw [if_neg h1] at h
 by_cases h2 : isW l i ⟨#[87,72,73,76,69]⟩ = true
 ·rw [if_pos h2] at h
  obtain ⟨c,k,hc,h⟩ := inv h
  obtain ⟨_,h⟩ := inv_must h
  obtain ⟨b,k2,hb,h⟩ := inv h
  obtain ⟨_,h⟩ := inv_must h
  obtain ⟨rfl,rfl⟩ := inv_ok h
  exact .while_ (hx _ _ _ hc) (hs _ _ _ hb)
 rw [if_neg h2] at h
 by_cases h3 : isW l i ⟨#[82,69,80,69,65,84]⟩ = true
 ·rw [if_pos h3] at h
  obtain ⟨b,k,hb,h⟩ := inv h
  obtain ⟨_,h⟩ := inv_must h
  obtain ⟨c,k2,hc,h⟩ := inv h
  obtain ⟨rfl,rfl⟩ := inv_ok h
  exact .repeat_ (hx _ _ _ hc) (hs _ _ _ hb)
 rw [if_neg h3] at h
 by_cases h4 : isW l i ⟨#[82,69,84,85,82,78]⟩ = true
 ·rw [if_pos h4] at h
  by_cases h5 : noStmt l (i + 1) = true
  ·rw [if_pos h5] at h
   obtain ⟨rfl,rfl⟩ := inv_ok h
   exact .ret0
  ·rw [if_neg h5] at h
   obtain ⟨x,k,hk,h⟩ := inv h
   obtain ⟨rfl,rfl⟩ := inv_ok h
   exact .ret1 (hx _ _ _ hk)
 rw [if_neg h4] at h
 by_cases h5 : isW l i ⟨#[78,69,87]⟩ = true
 ·rw [if_pos h5] at h
  obtain ⟨x,_,_,hk,rfl⟩ := built_ok h
  exact .new (De_ok hg hf hk)
 rw [if_neg h5] at h
 by_cases h6 : isW l i ⟨#[79,85,84]⟩ = true
 ·rw [if_pos h6] at h
  obtain ⟨x,_,_,hk,rfl⟩ := built_ok h
  exact .out (hx _ _ _ hk)
 rw [if_neg h6] at h
 by_cases h7 : isW l i ⟨#[71,69,84]⟩ = true
 ·rw [if_pos h7] at h
  obtain ⟨x,_,_,hk,rfl⟩ := built_ok h
  exact .get (De_ok hg hf hk)
 rw [if_neg h7] at h
 by_cases h8 : isW l i ⟨#[65,83,83,69,82,84]⟩ = true
 ·rw [if_pos h8] at h
  obtain ⟨x,_,_,hk,rfl⟩ := built_ok h
  exact .assert (hx _ _ _ hk)
 rw [if_neg h8] at h
 obtain ⟨d,k,hd,h⟩ := inv h
 by_cases h9 : isW l k ⟨#[58,61]⟩ = true
 ·rw [if_pos h9] at h
  obtain ⟨x,k2,hk,h⟩ := inv h
  obtain ⟨rfl,rfl⟩ := inv_ok h
  exact .asg (De_ok hg hf hd) (hx _ _ _ hk)
 ·rw [if_neg h9] at h
  obtain ⟨ts,k2,hk,h⟩ := inv h
  obtain ⟨rfl,rfl⟩ := inv_ok h
  exact .call (De_ok hg hf hd) (Ae_ok hg hf hk)
theorem stmtsLoop_ok {P : Tree → Prop} {st : Nat → R Tree} (hs : ∀ i t j,st i = .ok t j → P t) : ∀ (G i : Nat) (acc ts : List Tree) (j : Nat),stmtsLoop l st G i acc = .ok ts j → (∀ t ∈ acc,P t) → ∀ t ∈ ts,P t
 | 0,i,acc,ts,j,h,ha => by
  rw [stmtsLoop] at h
  obtain ⟨rfl,rfl⟩ := inv_ok h
  exact ha
 | G + 1,i,acc,ts,j,h,ha => by
  rw [stmtsLoop] at h
  by_cases h1 : noStmt l i = true
  ·rw [if_pos h1] at h
   by_cases h2 : isW l i ⟨#[59]⟩ = true
   ·rw [if_pos h2] at h
    exact stmtsLoop_ok hs G _ _ _ _ h ha
   ·rw [if_neg h2] at h
    obtain ⟨rfl,rfl⟩ := inv_ok h
    exact ha
  ·rw [if_neg h1] at h
   obtain ⟨t,k,ht,h⟩ := inv h
   have ha2 : ∀ u ∈ acc ++ [t],P u := fun u hu => by
    rcases List.mem_append.1 hu with hu | hu
    ·exact ha u hu
    ·obtain rfl := List.mem_singleton.1 hu
     exact hs _ _ _ ht
   by_cases h2 : isW l k ⟨#[59]⟩ = true
   ·rw [if_pos h2] at h
    exact stmtsLoop_ok hs G _ _ _ _ h ha2
   ·rw [if_neg h2] at h
    obtain ⟨rfl,rfl⟩ := inv_ok h
    exact ha2
theorem S_ok (hg : Good l) (hf : Few l) (hpos : 0 < l.length) : ∀ L i t j,S l L i = .ok t j → Pb L t
 | 0,_,_,_,h => by cases h
 | L + 1,i,t,j,h => by
  rw [S] at h
  unfold stmtsOf at h
  obtain ⟨ts,k,ht,h⟩ := inv h
  obtain ⟨rfl,rfl⟩ := inv_ok h
  exact .mk (Psq.of _ (stmtsLoop_ok (fun _ _ _ h => stmt_ok hg hf hpos (S_ok hg hf hpos L) h) _ _ _ _ _ ht (fun _ h => by cases h)))
theorem star_le1 (s : ByteArray) (i : Nat) : (Ps.star l s i).1 ≤ 1 := by
 unfold Ps.star
 split
 ·exact Nat.le_refl _
 ·exact Nat.zero_le _
theorem declared_ok {kind : Nat} {sign : ByteArray} {what : Nat → R Tree} {P : Tree → Prop} (hw : ∀ i t j,what i = .ok t j → P t) {i j : Nat} {t : Tree} (h : declared l kind sign what i = .ok t j) : Pdec kind P t := by
 unfold declared at h
 obtain ⟨hn,h⟩ := inv_name h
 obtain ⟨_,h⟩ := inv_must h
 obtain ⟨x,k,hx,h⟩ := inv h
 obtain ⟨rfl,rfl⟩ := inv_ok h
 exact ⟨_,_,_,_,rfl,hn,star_le1 _ _,hw _ _ _ hx⟩
theorem sectionLoop_ok {P : Tree → Prop} {one : Nat → R Tree} (hs : ∀ i t j,one i = .ok t j → P t) : ∀ (G i : Nat) (acc ts : List Tree) (j : Nat),sectionLoop l one G i acc = .ok ts j → (∀ t ∈ acc,P t) → ∀ t ∈ ts,P t
 | 0,i,acc,ts,j,h,ha => by
  rw [sectionLoop] at h
  obtain ⟨rfl,rfl⟩ := inv_ok h
  exact ha
 | G + 1,i,acc,ts,j,h,ha => by
  rw [sectionLoop] at h
  by_cases h1 : isName (W l i) = true
  ·rw [if_pos h1] at h
   obtain ⟨t,k,ht,h⟩ := inv h
   obtain ⟨_,h⟩ := inv_must h
   refine sectionLoop_ok hs G _ _ _ _ h fun u hu => ?_
   rcases List.mem_append.1 hu with hu | hu
   ·exact ha u hu
   ·obtain rfl := List.mem_singleton.1 hu
    exact hs _ _ _ ht
  ·rw [if_neg h1] at h
   obtain ⟨rfl,rfl⟩ := inv_ok h
   exact ha
theorem section_ok {P : Tree → Prop} {word : ByteArray} {one : Nat → R Tree} (hs : ∀ i t j,one i = .ok t j → P t) {i j : Nat} {t : Tree} (h : Ps.section_ l word one i = .ok t j) : Plist P t := by
 unfold Ps.section_ at h
 by_cases h1 : isW l i word = true
 ·rw [if_pos h1] at h
  obtain ⟨ts,k,ht,h⟩ := inv h
  obtain ⟨rfl,rfl⟩ := inv_ok h
  exact ⟨_,_,rfl,sectionLoop_ok hs _ _ _ _ _ ht (fun _ h => by cases h)⟩
 ·rw [if_neg h1] at h
  obtain ⟨rfl,rfl⟩ := inv_ok h
  exact ⟨_,_,rfl,fun _ h => by cases h⟩
theorem pt_ok {i j : Nat} {t : Tree} (h : Ps.typeName l i = .ok t j) : PT t := (tn_ok h).1
theorem base_ok {i j : Nat} {t : Tree} (h : baseR l i = .ok t j) : Pbase t := by
 unfold baseR at h
 by_cases h1 : isW l i ⟨#[40]⟩ = true
 ·rw [if_pos h1] at h
  obtain ⟨x,k,hx,h⟩ := inv h
  obtain ⟨_,h⟩ := inv_must h
  obtain ⟨rfl,rfl⟩ := inv_ok h
  exact .inr (pt_ok hx)
 ·rw [if_neg h1] at h
  obtain ⟨rfl,rfl⟩ := inv_ok h
  exact .inl ⟨_,rfl⟩
theorem fieldsLoop_ok : ∀ (G i : Nat) (b : Tree) (acc ts : List Tree) (j : Nat),fieldsLoop l G i (b :: acc) = .ok ts j → (∀ t ∈ acc,Pdec 11 PT t) → ∃ fs,ts = b :: fs ∧ ∀ t ∈ fs,Pdec 11 PT t
 | 0,i,b,acc,ts,j,h,ha => by
  rw [fieldsLoop] at h
  obtain ⟨rfl,rfl⟩ := inv_ok h
  exact ⟨_,rfl,ha⟩
 | G + 1,i,b,acc,ts,j,h,ha => by
  rw [fieldsLoop] at h
  by_cases h1 : isW l i ⟨#[69,78,68]⟩ = true
  ·rw [if_pos h1] at h
   obtain ⟨rfl,rfl⟩ := inv_ok h
   exact ⟨_,rfl,ha⟩
  ·rw [if_neg h1] at h
   obtain ⟨t,k,ht,h⟩ := inv h
   obtain ⟨_,h⟩ := inv_must h
   rw [List.cons_append] at h
   refine fieldsLoop_ok G _ _ _ _ _ h fun u hu => ?_
   rcases List.mem_append.1 hu with hu | hu
   ·exact ha u hu
   ·obtain rfl := List.mem_singleton.1 hu
    exact declared_ok (fun _ _ _ h => pt_ok h) ht
theorem typ_ok (hg : Good l) {i j : Nat} {t : Tree} (h : Ps.typ l i = .ok t j) : Pty t := by
 unfold Ps.typ at h
 by_cases h1 : isW l i ⟨#[65,82,82,65,89]⟩ = true
 ·rw [if_pos h1] at h
  obtain ⟨_,n,hle,h⟩ := number_inv hg h
  obtain ⟨_,h⟩ := inv_must h
  obtain ⟨x,k,hx,h⟩ := inv h
  obtain ⟨rfl,rfl⟩ := inv_ok h
  exact .arr hle (pt_ok hx)
 rw [if_neg h1] at h
 by_cases h2 : isW l i ⟨#[80,79,73,78,84,69,82]⟩ = true
 ·rw [if_pos h2] at h
  obtain ⟨_,h⟩ := inv_must h
  obtain ⟨x,k,hx,h⟩ := inv h
  obtain ⟨rfl,rfl⟩ := inv_ok h
  exact .ptr (pt_ok hx)
 rw [if_neg h2] at h
 by_cases h3 : isW l i ⟨#[82,69,67,79,82,68]⟩ = true
 ·rw [if_pos h3] at h
  obtain ⟨b,k,hb,h⟩ := inv h
  obtain ⟨ts,k2,hts,h⟩ := inv h
  obtain ⟨rfl,rfl⟩ := inv_ok h
  obtain ⟨fs,rfl,hfs⟩ := fieldsLoop_ok _ _ _ _ _ _ hts (fun _ h => by cases h)
  exact .rec_ (base_ok hb) hfs
 ·rw [if_neg h3] at h
  cases h
theorem param_ok {i j : Nat} {t : Tree} (h : Ps.param l i = .ok t j) : Pdec 8 PT t := by
 unfold Ps.param at h
 obtain ⟨hn,h⟩ := inv_name h
 obtain ⟨_,h⟩ := inv_must h
 obtain ⟨x,k,hx,h⟩ := inv h
 obtain ⟨rfl,rfl⟩ := inv_ok h
 exact ⟨_,_,_,_,rfl,hn,star_le1 _ _,pt_ok hx⟩
theorem paramsLoop_ok : ∀ (G i : Nat) (acc ts : List Tree) (j : Nat),paramsLoop l G i acc = .ok ts j → (∀ t ∈ acc,Pdec 8 PT t) → ∀ t ∈ ts,Pdec 8 PT t
 | 0,i,acc,ts,j,h,ha => by
  rw [paramsLoop] at h
  obtain ⟨rfl,rfl⟩ := inv_ok h
  exact ha
 | G + 1,i,acc,ts,j,h,ha => by
  rw [paramsLoop] at h
  obtain ⟨t,k,ht,h⟩ := inv h
  have ha2 : ∀ u ∈ acc ++ [t],Pdec 8 PT u := fun u hu => by
   rcases List.mem_append.1 hu with hu | hu
   ·exact ha u hu
   ·obtain rfl := List.mem_singleton.1 hu
    exact param_ok ht
  by_cases h1 : isW l k ⟨#[59]⟩ = true
  ·rw [if_pos h1] at h
   exact paramsLoop_ok G _ _ _ _ h ha2
  ·rw [if_neg h1] at h
   obtain ⟨rfl,rfl⟩ := inv_ok h
   exact ha2
theorem params_ok {i j : Nat} {t : Tree} (h : Ps.params l i = .ok t j) : Plist (Pdec 8 PT) t := by
 unfold Ps.params at h
 by_cases h1 : isW l i ⟨#[40]⟩ = true
 ·rw [if_pos h1] at h
  by_cases h2 : isW l (i + 1) ⟨#[41]⟩ = true
  ·rw [if_pos h2] at h
   obtain ⟨rfl,rfl⟩ := inv_ok h
   exact ⟨_,_,rfl,fun _ h => by cases h⟩
  ·rw [if_neg h2] at h
   obtain ⟨ts,k,ht,h⟩ := inv h
   obtain ⟨_,h⟩ := inv_must h
   obtain ⟨rfl,rfl⟩ := inv_ok h
   exact ⟨_,_,rfl,paramsLoop_ok _ _ _ _ _ ht (fun _ h => by cases h)⟩
 ·rw [if_neg h1] at h
  obtain ⟨rfl,rfl⟩ := inv_ok h
  exact ⟨_,_,rfl,fun _ h => by cases h⟩
theorem result_ok {i j : Nat} {t : Tree} (h : Ps.result l i = .ok t j) : Pbase t := by
 unfold Ps.result at h
 by_cases h1 : isW l i ⟨#[58]⟩ = true
 ·rw [if_pos h1] at h
  exact .inr (pt_ok h)
 ·rw [if_neg h1] at h
  obtain ⟨rfl,rfl⟩ := inv_ok h
  exact .inl ⟨_,rfl⟩
theorem variable_ok {i j : Nat} {t : Tree} (h : Ps.variable_ l i = .ok t j) : Pvar0 t := by
 unfold Ps.variable_ at h
 obtain ⟨hn,h⟩ := inv_name h
 obtain ⟨_,h⟩ := inv_must h
 obtain ⟨x,k,hx,h⟩ := inv h
 obtain ⟨rfl,rfl⟩ := inv_ok h
 exact ⟨_,_,_,rfl,hn,pt_ok hx⟩
theorem proc_ok (hg : Good l) (hf : Few l) (hpos : 0 < l.length) {i j : Nat} {t : Tree} (h : Ps.proc l i = .ok t j) : Pproc t := by
 unfold Ps.proc at h
 obtain ⟨_,h⟩ := inv_must h
 obtain ⟨hn,h⟩ := inv_name h
 obtain ⟨ps,k1,h1,h⟩ := inv h
 obtain ⟨r,k2,h2,h⟩ := inv h
 obtain ⟨_,h⟩ := inv_must h
 obtain ⟨vs,k3,h3,h⟩ := inv h
 obtain ⟨_,h⟩ := inv_must h
 obtain ⟨b,k4,h4,h⟩ := inv h
 obtain ⟨_,k5,_,h⟩ := inv h
 obtain ⟨rfl,rfl⟩ := inv_ok h
 exact ⟨_,_,_,_,_,_,_,rfl,hn,star_le1 _ _,params_ok h1,result_ok h2,section_ok (fun _ _ _ h => variable_ok h) h3,S_ok hg hf hpos _ _ _ _ h4⟩
theorem importsLoop_ok : ∀ (G i : Nat) (acc ts : List Tree) (j : Nat),importsLoop l G i acc = .ok ts j → (∀ t ∈ acc,Pimp t) → ∀ t ∈ ts,Pimp t
 | 0,i,acc,ts,j,h,ha => by
  rw [importsLoop] at h
  obtain ⟨rfl,rfl⟩ := inv_ok h
  exact ha
 | G + 1,i,acc,ts,j,h,ha => by
  rw [importsLoop] at h
  obtain ⟨hn,h⟩ := inv_name h
  have ha2 : ∀ u ∈ acc ++ [.node 3 (W l i) 0 (A l i) []],Pimp u := fun u hu => by
   rcases List.mem_append.1 hu with hu | hu
   ·exact ha u hu
   ·obtain rfl := List.mem_singleton.1 hu
    exact ⟨_,_,rfl,hn⟩
  by_cases h1 : isW l (i + 1) ⟨#[44]⟩ = true
  ·rw [if_pos h1] at h
   exact importsLoop_ok G _ _ _ _ h ha2
  ·rw [if_neg h1] at h
   obtain ⟨rfl,rfl⟩ := inv_ok h
   exact ha2
theorem imports_ok {i j : Nat} {t : Tree} (h : Ps.imports l i = .ok t j) : Plist Pimp t := by
 unfold Ps.imports at h
 by_cases h1 : isW l i ⟨#[73,77,80,79,82,84]⟩ = true
 ·rw [if_pos h1] at h
  obtain ⟨ts,k,ht,h⟩ := inv h
  obtain ⟨_,h⟩ := inv_must h
  obtain ⟨rfl,rfl⟩ := inv_ok h
  exact ⟨_,_,rfl,importsLoop_ok _ _ _ _ _ ht (fun _ h => by cases h)⟩
 ·rw [if_neg h1] at h
  obtain ⟨rfl,rfl⟩ := inv_ok h
  exact ⟨_,_,rfl,fun _ h => by cases h⟩
theorem procsLoop_ok (hg : Good l) (hf : Few l) (hpos : 0 < l.length) : ∀ (G i : Nat) (acc ts : List Tree) (j : Nat),procsLoop l G i acc = .ok ts j → (∀ t ∈ acc,Pproc t) → ∀ t ∈ ts,Pproc t
 | 0,i,acc,ts,j,h,ha => by
  rw [procsLoop] at h
  obtain ⟨rfl,rfl⟩ := inv_ok h
  exact ha
 | G + 1,i,acc,ts,j,h,ha => by
  rw [procsLoop] at h
  by_cases h1 : isW l i ⟨#[80,82,79,67,69,68,85,82,69]⟩ = true
  ·rw [if_pos h1] at h
   obtain ⟨t,k,ht,h⟩ := inv h
   obtain ⟨_,h⟩ := inv_must h
   refine procsLoop_ok hg hf hpos G _ _ _ _ h fun u hu => ?_
   rcases List.mem_append.1 hu with hu | hu
   ·exact ha u hu
   ·obtain rfl := List.mem_singleton.1 hu
    exact proc_ok hg hf hpos ht
  ·rw [if_neg h1] at h
   obtain ⟨rfl,rfl⟩ := inv_ok h
   exact ha
theorem procs_ok (hg : Good l) (hf : Few l) (hpos : 0 < l.length) {i j : Nat} {t : Tree} (h : Ps.procs l i = .ok t j) : Plist Pproc t := by
 unfold Ps.procs at h
 obtain ⟨ts,k,ht,h⟩ := inv h
 obtain ⟨rfl,rfl⟩ := inv_ok h
 exact ⟨_,_,rfl,procsLoop_ok hg hf hpos _ _ _ _ _ ht (fun _ h => by cases h)⟩
theorem body_ok (hg : Good l) (hf : Few l) (hpos : 0 < l.length) {i j : Nat} {t : Tree} (h : Ps.body l i = .ok t j) : Pb 20 t := by
 unfold Ps.body at h
 by_cases h1 : isW l i ⟨#[66,69,71,73,78]⟩ = true
 ·rw [if_pos h1] at h
  exact S_ok hg hf hpos _ _ _ _ h
 ·rw [if_neg h1] at h
  obtain ⟨rfl,rfl⟩ := inv_ok h
  exact .mk .nil
theorem module_ok (hg : Good l) (hf : Few l) (hpos : 0 < l.length) {i j : Nat} {t : Tree} (h : Ps.module l i = .ok t j) : Pmod t := by
 unfold Ps.module at h
 obtain ⟨_,h⟩ := inv_must h
 obtain ⟨hn,h⟩ := inv_name h
 obtain ⟨_,h⟩ := inv_must h
 obtain ⟨im,k1,h1,h⟩ := inv h
 obtain ⟨cs,k2,h2,h⟩ := inv h
 obtain ⟨ty,k3,h3,h⟩ := inv h
 obtain ⟨vs,k4,h4,h⟩ := inv h
 obtain ⟨ps,k5,h5,h⟩ := inv h
 obtain ⟨b,k6,h6,h⟩ := inv h
 obtain ⟨_,k7,_,h⟩ := inv h
 obtain ⟨_,h⟩ := inv_must h
 obtain ⟨rfl,rfl⟩ := inv_ok h
 exact ⟨_,_,_,_,_,_,_,_,rfl,hn,imports_ok h1,section_ok (fun _ _ _ h => declared_ok (fun _ _ _ h => Xe_ok hg hf h) h) h2,section_ok (fun _ _ _ h => declared_ok (fun _ _ _ h => typ_ok hg h) h) h3,
  section_ok (fun _ _ _ h => declared_ok (fun _ _ _ h => pt_ok h) h) h4,procs_ok hg hf hpos h5,body_ok hg hf hpos h6⟩
theorem tree_ok (hg : Good l) (hf : Few l) (hpos : 0 < l.length) {j : Nat} {t : Tree} (h : Ps.tree l = .ok t j) : Pmod t := by
 unfold Ps.tree at h
 obtain ⟨u,k,hu,h⟩ := inv h
 by_cases h1 : isW l k ⟨#[]⟩ = true
 ·rw [if_pos h1] at h
  obtain ⟨rfl,rfl⟩ := inv_ok h
  exact module_ok hg hf hpos hu
 ·rw [if_neg h1] at h
  cases h
end Go.Proofs.YtneohanphabneaaGreatDoor.Pr
