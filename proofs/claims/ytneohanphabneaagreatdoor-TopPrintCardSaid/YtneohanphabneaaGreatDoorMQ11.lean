/-
  The plain law of what is written: a tree's places do not matter; words are counted between words that no expression holds.
-/
import Derived.Test.YtneohanphabneaaGreatDoorQ10
import Derived.Test.YtneohanphabneaaGreatDoorQ8
namespace Go.Proofs.YtneohanphabneaaGreatDoor.Pr
open Ps Sc
def cnt : Nat → List (List UInt8) → Option Nat
 | c,[] => some c
 | c,w :: ws => if sepW ⟨w.toArray⟩ = true then cnt 0 ws else if opW ⟨w.toArray⟩ = true then (if c < 20 then cnt (c + 1) ws else none) else cnt c ws
theorem cnt_app : ∀ (a b : List (List UInt8)) (c : Nat),cnt c (a ++ b) = (cnt c a).bind fun d => cnt d b
 | [],_,_ => rfl
 | w :: a,b,c => by
  rw [List.cons_append]
  conv => lhs; unfold cnt
  conv => rhs; arg 1; unfold cnt
  split
  ·exact cnt_app a b 0
  ·split
   ·split
    ·exact cnt_app a b (c + 1)
    ·rfl
   ·exact cnt_app a b c
theorem cnt_mono : ∀ (ws : List (List UInt8)) (c d e : Nat),cnt c ws = some d → e ≤ c → ∃ f,f ≤ d ∧ cnt e ws = some f
 | [],c,d,e,h,he => by
  unfold cnt at h ⊢
  injection h with h
  exact ⟨e,by omega,rfl⟩
 | w :: ws,c,d,e,h,he => by
  unfold cnt at h ⊢
  split at h
  ·rename_i hs
   rw [if_pos hs]
   exact ⟨d,Nat.le_refl _,h⟩
  ·rename_i hs
   rw [if_neg hs]
   split at h
   ·rename_i ho
    rw [if_pos ho]
    split at h
    ·rw [if_pos (by omega)]
     exact cnt_mono ws (c + 1) d (e + 1) h (by omega)
    ·cases h
   ·rename_i ho
    rw [if_neg ho]
    exact cnt_mono ws c d e h he
theorem few_of {l : List Tok} {d : Nat} (h : cnt 0 (l.map (·.1)) = some d) : Few l := by
 have hst : ∀ j,∃ c,cnt 0 ((l.map (·.1)).take j) = some c := fun j => by
  have e := cnt_app ((l.map (·.1)).take j) ((l.map (·.1)).drop j) 0
  rw [List.take_append_drop,h] at e
  cases hc : cnt 0 ((l.map (·.1)).take j) with
  | none => rw [hc] at e; cases e
  | some c => exact ⟨c,rfl⟩
 have hs : ∀ j c,cnt 0 ((l.map (·.1)).take j) = some c → cnt 0 ((l.map (·.1)).take (j + 1)) = (if sepW (W l j) = true then some 0 else if opW (W l j) = true then (if c < 20 then some (c + 1) else none) else some c) := fun j c hc => by
  rw [List.take_add_one,cnt_app,hc,List.getElem?_map]
  unfold W
  cases l[j]? with
  | none => rfl
  | some t => rfl
 have hle : ∀ j c,cnt 0 ((l.map (·.1)).take j) = some c → c ≤ 20 := by
  intro j
  induction j with
  | zero => intro c hc; rw [List.take_zero] at hc; injection hc with hc; omega
  | succ j ih =>
   intro c hc
   obtain ⟨b,hb⟩ := hst j
   rw [hs j b hb] at hc
   have := ih b hb
   split at hc
   ·injection hc with hc; omega
   ·split at hc
    ·split at hc
     ·injection hc with hc; omega
     ·cases hc
    ·injection hc with hc; omega
 have hm : ∀ (p : ByteArray → Bool) (_ : p ⟨#[]⟩ = false) i k,pc p l i ≤ pc p l (i + k) := fun p hp i k => by
  induction k with
  | zero => exact Nat.le_refl _
  | succ k ih => rw [← Nat.add_assoc,pc_succ hp]; omega
 have key : ∀ i k a b,cnt 0 ((l.map (·.1)).take i) = some a → cnt 0 ((l.map (·.1)).take (i + k)) = some b → pc sepW l (i + k) = pc sepW l i → a + pc opW l (i + k) = b + pc opW l i := by
  intro i k
  induction k with
  | zero =>
   intro a b ha hb _
   rw [Nat.add_zero,ha] at hb
   injection hb with hb
   rw [Nat.add_zero,hb]
  | succ k ih =>
   intro a b ha hb he
   rw [← Nat.add_assoc] at hb he ⊢
   obtain ⟨c,hc⟩ := hst (i + k)
   have m1 := hm sepW (by decide) i k
   have e1 := pc_succ (p := sepW) (by decide) l (i + k)
   have hns : ¬ sepW (W l (i + k)) = true := fun hw => by rw [if_pos hw] at e1; omega
   rw [if_neg hns] at e1
   have := ih a c ha hc (by omega)
   rw [hs _ c hc,if_neg hns] at hb
   rw [pc_succ (p := opW) (by decide)]
   by_cases ho : opW (W l (i + k)) = true
   ·rw [if_pos ho] at hb ⊢
    split at hb
    ·injection hb with hb; omega
    ·cases hb
   ·rw [if_neg ho] at hb ⊢
    injection hb with hb; omega
 rintro i j n ⟨hij,h1,h2⟩
 obtain ⟨k,rfl⟩ := Nat.exists_eq_add_of_le hij
 obtain ⟨a,ha⟩ := hst i
 obtain ⟨b,hb⟩ := hst (i + k)
 have e := key i k a b ha hb h2
 have := hle _ b hb
 omega
theorem strip_inv {t' : Tree} {k : Nat} {n : ByteArray} {num a : Nat} {ts : List Tree} (h : strip t' = strip (.node k n num a ts)) : ∃ a' ts',t' = .node k n num a' ts' ∧ ts'.map strip = ts.map strip := by
 obtain ⟨k',n',num',a',ts'⟩ := t'
 rw [strip_node,strip_node] at h
 injection h with h1 h2 h3 _ h5
 subst h1 h2 h3
 exact ⟨a',ts',rfl,h5⟩
theorem strip0 {ts' : List Tree} (h : ts'.map strip = [].map strip) : ts' = [] := by simpa using h
theorem stripC {ts' ts : List Tree} {x : Tree} (h : ts'.map strip = (x :: ts).map strip) : ∃ x' us,ts' = x' :: us ∧ strip x' = strip x ∧ us.map strip = ts.map strip := by
 cases ts' with
 | nil => simp at h
 | cons x' us =>
  rw [List.map_cons,List.map_cons] at h
  injection h with h1 h2
  exact ⟨x',us,rfl,h1,h2⟩
theorem strip1 {ts' : List Tree} {x : Tree} (h : ts'.map strip = [x].map strip) : ∃ x',ts' = [x'] ∧ strip x' = strip x := by
 obtain ⟨x',us,rfl,h1,h2⟩ := stripC h
 obtain rfl := strip0 h2
 exact ⟨x',rfl,h1⟩
theorem strip2 {ts' : List Tree} {x y : Tree} (h : ts'.map strip = [x,y].map strip) : ∃ x' y',ts' = [x',y'] ∧ strip x' = strip x ∧ strip y' = strip y := by
 obtain ⟨x',us,rfl,h1,h2⟩ := stripC h
 obtain ⟨y',rfl,h3⟩ := strip1 h2
 exact ⟨x',y',rfl,h1,h3⟩
theorem PT.as {t : Tree} (h : PT t) {t' : Tree} (e : strip t' = strip t) : PT t' := by
 cases h with
 | one hn =>
  obtain ⟨a,ts,rfl,h⟩ := strip_inv e
  obtain rfl := strip0 h
  exact .one hn
 | two hn hn2 =>
  obtain ⟨a,ts,rfl,h⟩ := strip_inv e
  obtain ⟨x,rfl,h2⟩ := strip1 h
  obtain ⟨b,us,rfl,h3⟩ := strip_inv h2
  obtain rfl := strip0 h3
  exact .two hn hn2
theorem kind_as {t t' : Tree} (e : strip t' = strip t) : kindT t' = kindT t ∧ nameT t' = nameT t ∧ numT t' = numT t := by
 obtain ⟨k,n,num,a,ts⟩ := t
 obtain ⟨a',ts',rfl,h⟩ := strip_inv e
 exact ⟨rfl,rfl,rfl⟩
mutual
theorem Px.as : ∀ {L v : Nat} {t : Tree},Px L v t → ∀ t',strip t' = strip t → Px L v t'
 | _,_,_,.num h,t',e => by
  obtain ⟨a,ts,rfl,h1⟩ := strip_inv e
  obtain rfl := strip0 h1
  exact .num h
 | _,_,_,.atom h,t',e => by
  obtain ⟨a,ts,rfl,h1⟩ := strip_inv e
  obtain rfl := strip0 h1
  exact .atom h
 | _,_,_,.des h hm,t',e => .des (Pd.as h t' e) hm
 | _,_,_,.call h hm ha,t',e => by
  obtain ⟨a,ts,rfl,h1⟩ := strip_inv e
  obtain ⟨x,us,rfl,h2,h3⟩ := stripC h1
  exact .call (Pd.as h x h2) hm (Pa.as ha us h3)
 | _,_,_,.not h,t',e => by
  obtain ⟨a,ts,rfl,h1⟩ := strip_inv e
  obtain ⟨x,rfl,h2⟩ := strip1 h1
  exact .not (Px.as h x h2)
 | _,_,_,.neg hv h,t',e => by
  obtain ⟨a,ts,rfl,h1⟩ := strip_inv e
  obtain ⟨x,rfl,h2⟩ := strip1 h1
  exact .neg hv (Px.as h x h2)
 | _,_,_,.is h ht,t',e => by
  obtain ⟨a,ts,rfl,h1⟩ := strip_inv e
  obtain ⟨x,y,rfl,h2,h3⟩ := strip2 h1
  exact .is (Px.as h x h2) (ht.as h3)
 | _,_,_,.op0 hn h1 h2,t',e => by
  obtain ⟨a,ts,rfl,g1⟩ := strip_inv e
  obtain ⟨x,y,rfl,g2,g3⟩ := strip2 g1
  exact .op0 hn (Px.as h1 x g2) (Px.as h2 y g3)
 | _,_,_,.op1 hn hv h1 h2,t',e => by
  obtain ⟨a,ts,rfl,g1⟩ := strip_inv e
  obtain ⟨x,y,rfl,g2,g3⟩ := strip2 g1
  exact .op1 hn hv (Px.as h1 x g2) (Px.as h2 y g3)
 | _,_,_,.op2 hn hv h1 h2,t',e => by
  obtain ⟨a,ts,rfl,g1⟩ := strip_inv e
  obtain ⟨x,y,rfl,g2,g3⟩ := strip2 g1
  exact .op2 hn hv (Px.as h1 x g2) (Px.as h2 y g3)
 | _,_,_,.par h1 h2 h,t',e => .par (by obtain ⟨e1,e2,_⟩ := kind_as e; rw [e1,e2]; exact h1) h2 (Px.as h t' e)
theorem Pd.as : ∀ {L m : Nat} {t : Tree},Pd L m t → ∀ t',strip t' = strip t → Pd L m t'
 | _,_,_,.ref hn,t',e => by
  obtain ⟨a,ts,rfl,h1⟩ := strip_inv e
  obtain rfl := strip0 h1
  exact .ref hn
 | _,_,_,.dot hn h,t',e => by
  obtain ⟨a,ts,rfl,h1⟩ := strip_inv e
  obtain ⟨x,rfl,h2⟩ := strip1 h1
  exact .dot hn (Pd.as h x h2)
 | _,_,_,.index h hx,t',e => by
  obtain ⟨a,ts,rfl,h1⟩ := strip_inv e
  obtain ⟨x,y,rfl,h2,h3⟩ := strip2 h1
  exact .index (Pd.as h x h2) (Px.as hx y h3)
 | _,_,_,.hat h,t',e => by
  obtain ⟨a,ts,rfl,h1⟩ := strip_inv e
  obtain ⟨x,rfl,h2⟩ := strip1 h1
  exact .hat (Pd.as h x h2)
 | _,_,_,.guard h ht,t',e => by
  obtain ⟨a,ts,rfl,h1⟩ := strip_inv e
  obtain ⟨x,y,rfl,h2,h3⟩ := strip2 h1
  exact .guard (Pd.as h x h2) (ht.as h3)
theorem Pa.as : ∀ {L : Nat} {ts : List Tree},Pa L ts → ∀ ts',ts'.map strip = ts.map strip → Pa L ts'
 | _,_,.nil,ts',e => by
  obtain rfl := strip0 e
  exact .nil
 | _,_,.cons h hs,ts',e => by
  obtain ⟨x,us,rfl,h2,h3⟩ := stripC e
  exact .cons (Px.as h x h2) (Pa.as hs us h3)
end
mutual
theorem nops_as0 : ∀ t : Tree,nops (strip t) = nops t
 | .node k n num a ts => by rw [strip_node,nops_node,nops_node,← stripL_map,nopsL_as0 ts]
theorem nopsL_as0 : ∀ ts : List Tree,nopsL (stripL ts) = nopsL ts
 | [] => by unfold stripL; rfl
 | t :: ts => by
  unfold stripL nopsL
  rw [nops_as0 t,nopsL_as0 ts]
end
theorem nops_as {t t' : Tree} (e : strip t' = strip t) : nops t' = nops t := by rw [← nops_as0 t',e,nops_as0]
theorem nopsL_as {ts ts' : List Tree} (e : ts'.map strip = ts.map strip) : nopsL ts' = nopsL ts := by rw [← nopsL_as0 ts',stripL_map,e,← stripL_map,nopsL_as0]
theorem Xe.as {L : Nat} {t t' : Tree} (h : Xe L t) (e : strip t' = strip t) : Xe L t' := by
 obtain ⟨M,rfl,h1,h2⟩ := h
 exact ⟨M,rfl,h1.as t' e,by rw [nops_as e]; exact h2⟩
theorem De.as {L : Nat} {t t' : Tree} (h : De L t) (e : strip t' = strip t) : De L t' := by
 obtain ⟨m,h1,h2,h3⟩ := h
 exact ⟨m,h1.as t' e,h2,by rw [nops_as e]; exact h3⟩
theorem Ae.as {L : Nat} {ts ts' : List Tree} (h : Ae L ts) (e : ts'.map strip = ts.map strip) : Ae L ts' := ⟨h.1.as ts' e,by rw [nopsL_as e]; exact h.2⟩
mutual
theorem Pst.as : ∀ {L : Nat} {t : Tree},Pst L t → ∀ t',strip t' = strip t → Pst L t'
 | _,_,.asg hd hx,t',e => by
  obtain ⟨a,ts,rfl,h1⟩ := strip_inv e
  obtain ⟨x,y,rfl,h2,h3⟩ := strip2 h1
  exact .asg (hd.as h2) (hx.as h3)
 | _,_,.call hd ha,t',e => by
  obtain ⟨a,ts,rfl,h1⟩ := strip_inv e
  obtain ⟨x,us,rfl,h2,h3⟩ := stripC h1
  exact .call (hd.as h2) (ha.as h3)
 | _,_,.ifs hi,t',e => by
  obtain ⟨a,ts,rfl,h1⟩ := strip_inv e
  exact .ifs (Pi.as hi _ h1)
 | _,_,.while_ hx hb,t',e => by
  obtain ⟨a,ts,rfl,h1⟩ := strip_inv e
  obtain ⟨x,y,rfl,h2,h3⟩ := strip2 h1
  exact .while_ (hx.as h2) (Pb.as hb y h3)
 | _,_,.repeat_ hx hb,t',e => by
  obtain ⟨a,ts,rfl,h1⟩ := strip_inv e
  obtain ⟨x,y,rfl,h2,h3⟩ := strip2 h1
  exact .repeat_ (hx.as h3) (Pb.as hb x h2)
 | _,_,.ret0,t',e => by
  obtain ⟨a,ts,rfl,h1⟩ := strip_inv e
  obtain rfl := strip0 h1
  exact .ret0
 | _,_,.ret1 hx,t',e => by
  obtain ⟨a,ts,rfl,h1⟩ := strip_inv e
  obtain ⟨x,rfl,h2⟩ := strip1 h1
  exact .ret1 (hx.as h2)
 | _,_,.new hd,t',e => by
  obtain ⟨a,ts,rfl,h1⟩ := strip_inv e
  obtain ⟨x,rfl,h2⟩ := strip1 h1
  exact .new (hd.as h2)
 | _,_,.out hx,t',e => by
  obtain ⟨a,ts,rfl,h1⟩ := strip_inv e
  obtain ⟨x,rfl,h2⟩ := strip1 h1
  exact .out (hx.as h2)
 | _,_,.get hd,t',e => by
  obtain ⟨a,ts,rfl,h1⟩ := strip_inv e
  obtain ⟨x,rfl,h2⟩ := strip1 h1
  exact .get (hd.as h2)
 | _,_,.assert hx,t',e => by
  obtain ⟨a,ts,rfl,h1⟩ := strip_inv e
  obtain ⟨x,rfl,h2⟩ := strip1 h1
  exact .assert (hx.as h2)
theorem Pi.as : ∀ {L num : Nat} {ts : List Tree},Pi L num ts → ∀ ts',ts'.map strip = ts.map strip → Pi L num ts'
 | _,_,_,.last hx hb,ts',e => by
  obtain ⟨x,y,rfl,h2,h3⟩ := strip2 e
  exact .last (hx.as h2) (Pb.as hb y h3)
 | _,_,_,.els hx hb he,ts',e => by
  obtain ⟨x,us,rfl,h2,e⟩ := stripC e
  obtain ⟨y,z,rfl,h3,h4⟩ := strip2 e
  exact .els (hx.as h2) (Pb.as hb y h3) (Pb.as he z h4)
 | _,_,_,.more hx hb hi,ts',e => by
  obtain ⟨x,us,rfl,h2,e⟩ := stripC e
  obtain ⟨y,vs,rfl,h3,h4⟩ := stripC e
  exact .more (hx.as h2) (Pb.as hb y h3) (Pi.as hi vs h4)
theorem Pb.as : ∀ {L : Nat} {t : Tree},Pb L t → ∀ t',strip t' = strip t → Pb L t'
 | _,_,.mk h,t',e => by
  obtain ⟨a,ts,rfl,h1⟩ := strip_inv e
  exact .mk (Psq.as h ts h1)
theorem Psq.as : ∀ {L : Nat} {ts : List Tree},Psq L ts → ∀ ts',ts'.map strip = ts.map strip → Psq L ts'
 | _,_,.nil,ts',e => by
  obtain rfl := strip0 e
  exact .nil
 | _,_,.cons h hs,ts',e => by
  obtain ⟨x,us,rfl,h2,h3⟩ := stripC e
  exact .cons (Pst.as h x h2) (Psq.as hs us h3)
end
theorem all_as {P : Tree → Prop} (hP : ∀ t,P t → ∀ t',strip t' = strip t → P t') : ∀ ts ts' : List Tree,(∀ t ∈ ts,P t) → ts'.map strip = ts.map strip → ∀ t ∈ ts',P t
 | [],ts',_,e => by
  obtain rfl := strip0 e
  exact fun t ht => by cases ht
 | t :: ts,ts',h,e => by
  obtain ⟨x,us,rfl,h2,h3⟩ := stripC e
  intro u hu
  rcases List.mem_cons.1 hu with rfl | hu
  ·exact hP t (h t List.mem_cons_self) _ h2
  ·exact all_as hP ts us (fun v hv => h v (List.mem_cons_of_mem _ hv)) h3 u hu
theorem Pdec.as {kind : Nat} {P : Tree → Prop} (hP : ∀ t,P t → ∀ t',strip t' = strip t → P t') : ∀ t,Pdec kind P t → ∀ t',strip t' = strip t → Pdec kind P t' := by
 rintro _ ⟨n,num,a,x,rfl,hn,hnum,hx⟩ t' e
 obtain ⟨a',ts,rfl,h1⟩ := strip_inv e
 obtain ⟨y,rfl,h2⟩ := strip1 h1
 exact ⟨_,_,_,_,rfl,hn,hnum,hP x hx y h2⟩
theorem Pbase.as {t : Tree} (h : Pbase t) {t' : Tree} (e : strip t' = strip t) : Pbase t' := by
 rcases h with ⟨a,rfl⟩ | h
 ·obtain ⟨a',ts,rfl,h1⟩ := strip_inv e
  obtain rfl := strip0 h1
  exact .inl ⟨_,rfl⟩
 ·exact .inr (h.as e)
theorem PT.as' : ∀ t,PT t → ∀ t',strip t' = strip t → PT t' := fun _ h _ e => h.as e
theorem Pty.as : ∀ t,Pty t → ∀ t',strip t' = strip t → Pty t' := by
 intro t h t' e
 cases h with
 | arr hn hx =>
  obtain ⟨a',ts,rfl,h1⟩ := strip_inv e
  obtain ⟨y,rfl,h2⟩ := strip1 h1
  exact .arr hn (hx.as h2)
 | ptr hx =>
  obtain ⟨a',ts,rfl,h1⟩ := strip_inv e
  obtain ⟨y,rfl,h2⟩ := strip1 h1
  exact .ptr (hx.as h2)
 | rec_ hb hf =>
  obtain ⟨a',ts,rfl,h1⟩ := strip_inv e
  obtain ⟨y,us,rfl,h2,h3⟩ := stripC h1
  exact .rec_ (hb.as h2) (all_as (Pdec.as PT.as') _ _ hf h3)
theorem Plist.as {P : Tree → Prop} (hP : ∀ t,P t → ∀ t',strip t' = strip t → P t') {t : Tree} (h : Plist P t) {t' : Tree} (e : strip t' = strip t) : Plist P t' := by
 obtain ⟨a,ts,rfl,h⟩ := h
 obtain ⟨a',us,rfl,h1⟩ := strip_inv e
 exact ⟨_,_,rfl,all_as hP _ _ h h1⟩
theorem Pvar0.as : ∀ t,Pvar0 t → ∀ t',strip t' = strip t → Pvar0 t' := by
 rintro _ ⟨n,a,x,rfl,hn,hx⟩ t' e
 obtain ⟨a',ts,rfl,h1⟩ := strip_inv e
 obtain ⟨y,rfl,h2⟩ := strip1 h1
 exact ⟨_,_,_,rfl,hn,hx.as h2⟩
theorem Pproc.as : ∀ t,Pproc t → ∀ t',strip t' = strip t → Pproc t' := by
 rintro _ ⟨n,num,a,ps,r,vs,b,rfl,hn,hnum,hps,hr,hvs,hb⟩ t' e
 obtain ⟨a',ts,rfl,h1⟩ := strip_inv e
 obtain ⟨ps',_,rfl,e1,h1⟩ := stripC h1
 obtain ⟨r',_,rfl,e2,h1⟩ := stripC h1
 obtain ⟨vs',b',rfl,e3,e4⟩ := strip2 h1
 exact ⟨_,_,_,_,_,_,_,rfl,hn,hnum,hps.as (Pdec.as PT.as') e1,hr.as e2,hvs.as Pvar0.as e3,hb.as _ e4⟩
theorem Pimp.as : ∀ t,Pimp t → ∀ t',strip t' = strip t → Pimp t' := by
 rintro _ ⟨n,a,rfl,hn⟩ t' e
 obtain ⟨a',ts,rfl,h1⟩ := strip_inv e
 obtain rfl := strip0 h1
 exact ⟨_,_,rfl,hn⟩
theorem Pmod.as {t t' : Tree} (h : Pmod t) (e : strip t' = strip t) : Pmod t' := by
 obtain ⟨n,a,im,cs,ty,vs,ps,b,rfl,hn,h1,h2,h3,h4,h5,h6⟩ := h
 obtain ⟨a',ts,rfl,g⟩ := strip_inv e
 obtain ⟨x1,_,rfl,e1,g⟩ := stripC g
 obtain ⟨x2,_,rfl,e2,g⟩ := stripC g
 obtain ⟨x3,_,rfl,e3,g⟩ := stripC g
 obtain ⟨x4,_,rfl,e4,g⟩ := stripC g
 obtain ⟨x5,x6,rfl,e5,e6⟩ := strip2 g
 exact ⟨_,_,_,_,_,_,_,_,rfl,hn,h1.as Pimp.as e1,h2.as (Pdec.as fun _ h _ e => Xe.as h e) e2,h3.as (Pdec.as Pty.as) e3,h4.as (Pdec.as PT.as') e4,h5.as Pproc.as e5,h6.as _ e6⟩
theorem typeName_strip : ∀ t : Tree,typeName (strip t) = typeName t
 | .node k n num a [] => by rw [strip_node]; rfl
 | .node k n num a (.node k2 n2 num2 a2 us :: ts) => by rw [strip_node,List.map_cons,strip_node]; rfl
theorem tn_strip (ts : List Tree) (i : Nat) : tn (ts.map strip) i = tn ts i := by
 unfold tn
 rw [List.getElem?_map]
 cases ts[i]? with
 | none => rfl
 | some t => exact typeName_strip t
theorem bodyE_strip (k : Nat) (n : ByteArray) (num : Nat) (ts : List Tree) (es : List (Nat → List Pc)) : bodyE k n num (ts.map strip) es = bodyE k n num ts es := by
 unfold bodyE
 split <;> first | rfl | rw [tn_strip]
mutual
theorem expr_strip : ∀ t : Tree,expr (strip t) = expr t
 | .node k n num a ts => by
  funext v
  rw [strip_node,expr_node,expr_node,bodyE_strip,← stripL_map,← exprL_map,← exprL_map,exprL_strip ts]
theorem exprL_strip : ∀ ts : List Tree,exprL (stripL ts) = exprL ts
 | [] => by unfold stripL; rfl
 | t :: ts => by
  unfold stripL exprL
  rw [expr_strip t,exprL_strip ts]
end
theorem e0_strip (ts : List Tree) (i lv : Nat) : e0 (ts.map strip) i lv = e0 ts i lv := by
 unfold e0
 rw [List.getElem?_map]
 cases ts[i]? with
 | none => rfl
 | some t => show expr (strip t) lv = _; rw [expr_strip]
theorem ifs_strip : ∀ (ts : List Tree) (d : Nat) (w : Pc) (bs : List (Nat → List Pc)),ifs d w (ts.map strip) bs = ifs d w ts bs
 | [],_,_,_ => rfl
 | [_],_,_,_ => rfl
 | c :: x :: ts,d,w,[] => rfl
 | c :: x :: ts,d,w,[_] => rfl
 | c :: x :: ts,d,w,b1 :: b2 :: bs => by
  rw [List.map_cons,List.map_cons]
  unfold ifs
  rw [expr_strip,ifs_strip ts]
theorem map_strip_expr (ts : List Tree) : (ts.map strip).map expr = ts.map expr := by
 rw [List.map_map]
 congr 1
 funext t
 exact expr_strip t
theorem stmtK_strip (k num : Nat) (ts : List Tree) (bs : List (Nat → List Pc)) (d : Nat) (e : List Pc) : stmtK k num (ts.map strip) bs d e = stmtK k num ts bs d e := by
 unfold stmtK
 simp only [ifs_strip,e0_strip,List.length_map,List.isEmpty_map,← List.map_drop,map_strip_expr]
mutual
theorem stmt_strip : ∀ t : Tree,stmt (strip t) = stmt t
 | .node k n num a ts => by
  funext d e
  rw [strip_node]
  unfold stmt
  rw [stmtK_strip,← stripL_map,blockL_strip ts]
theorem blockL_strip : ∀ ts : List Tree,blockL (stripL ts) = blockL ts
 | [] => by unfold stripL; rfl
 | t :: ts => by
  unfold stripL blockL
  rw [block_strip t,blockL_strip ts]
theorem block_strip : ∀ t : Tree,block (strip t) = block t
 | .node k n num a ts => by
  funext d
  rw [strip_node]
  unfold block
  rw [← stripL_map,seqS_strip ts]
theorem seqS_strip : ∀ ts : List Tree,seqS (stripL ts) = seqS ts
 | [] => by unfold stripL; rfl
 | t :: ts => by
  funext d
  have e : (stripL ts).isEmpty = ts.isEmpty := by rw [stripL_map,List.isEmpty_map]
  unfold stripL seqS
  rw [stmt_strip t,seqS_strip ts,e]
end
theorem kindT_strip (t : Tree) : kindT (strip t) = kindT t := by cases t; rw [strip_node]; rfl
theorem nameT_strip (t : Tree) : nameT (strip t) = nameT t := by cases t; rw [strip_node]; rfl
theorem numT_strip (t : Tree) : numT (strip t) = numT t := by cases t; rw [strip_node]; rfl
theorem subsT_strip (t : Tree) : subsT (strip t) = (subsT t).map strip := by cases t; rw [strip_node]; rfl
theorem sub_strip (t : Tree) (i : Nat) : sub (strip t) i = strip (sub t i) := by
 unfold sub
 rw [subsT_strip,List.getElem?_map]
 cases (subsT t)[i]? with
 | none => show Tree.node 0 ⟨#[]⟩ 0 0 [] = strip (Tree.node 0 ⟨#[]⟩ 0 0 []); rw [strip_node]; rfl
 | some x => rfl
theorem variable_strip (x : Tree) : variable_ (strip x) = variable_ x := by unfold variable_; rw [nameT_strip,numT_strip,sub_strip,typeName_strip]
theorem flat_strip {f : Tree → List Pc} (hf : ∀ x,f (strip x) = f x) (ts : List Tree) : (ts.map strip).flatMap f = ts.flatMap f := by
 induction ts with
 | nil => rfl
 | cons t ts ih => rw [List.map_cons,List.flatMap_cons,List.flatMap_cons,hf,ih]
theorem typ_strip (x : Tree) : typ (strip x) = typ x := by
 unfold typ
 simp only [kindT_strip,numT_strip,sub_strip,typeName_strip,subsT_strip,← List.map_drop]
 rw [flat_strip (fun y => by rw [variable_strip])]
theorem const_strip (x : Tree) : const_ (strip x) = const_ x := by unfold const_; rw [nameT_strip,numT_strip,sub_strip,expr_strip]
theorem named_strip (x : Tree) : named (strip x) = named x := by unfold named; rw [nameT_strip,numT_strip,sub_strip,typ_strip]
theorem param_strip (x : Tree) : param (strip x) = param x := by unfold param; rw [nameT_strip,numT_strip,sub_strip,typeName_strip]
theorem section_strip {d : Nat} {w : Pc} {f : Tree → List Pc} (hf : ∀ x,f (strip x) = f x) (ts : List Tree) : section_ d w (ts.map strip) f = section_ d w ts f := by
 unfold section_
 rw [List.isEmpty_map,flat_strip (fun x => by rw [hf])]
theorem proc_strip (x : Tree) : proc (strip x) = proc x := by
 unfold proc
 simp only [nameT_strip,numT_strip,sub_strip,subsT_strip,kindT_strip,typeName_strip,section_strip variable_strip,block_strip,List.isEmpty_map,List.map_map]
 rw [show (param ∘ strip) = param from funext param_strip]
theorem module_strip (t : Tree) : module (strip t) = module t := by
 unfold module
 simp only [nameT_strip,sub_strip,subsT_strip,section_strip variable_strip,section_strip const_strip,section_strip named_strip,block_strip,List.isEmpty_map,List.map_map,flat_strip proc_strip]
 rw [show ((fun i => [nm (nameT i)]) ∘ strip) = (fun i => [nm (nameT i)]) from funext fun x => by show [nm (nameT (strip x))] = _; rw [nameT_strip]]
theorem module_as {t t' : Tree} (e : strip t' = strip t) : module t' = module t := by rw [← module_strip t',e,module_strip]
end Go.Proofs.YtneohanphabneaaGreatDoor.Pr
namespace Go.Proofs.YtneohanphabneaaGreatDoor.Gn
open Ps Sc Pr
def hN (b : List UInt8) : Prop := ∃ d,b.head? = some d ∧ isLD d = false
def lN (b : List UInt8) : Prop := ∃ d,b.getLast? = some d ∧ isLD d = false
structure Cs (c k n : Nat) (h l : Bool) (s : ByteArray) : Prop where
 size : s.size ≤ n
 words : ∃ ws d,Reads s.data.toList ws ∧ cnt c ws = some d ∧ d ≤ k
 head : ∀ d,s.data.toList.head? = some d → d ≠ 61 ∧ d ≠ 42
 hn : h = true → hN s.data.toList
 ln : l = true → lN s.data.toList
theorem app_list (a b : ByteArray) : (a ++ b).data.toList = a.data.toList ++ b.data.toList := by simp
theorem safe_join {c d : UInt8} (h1 : (isLD c && isLD d) = false) (h2 : d ≠ 61 ∧ d ≠ 42) : safe c d = true := by
 unfold safe
 rw [h1]
 simp [h2.1,h2.2]
theorem Cs.app {c k m n p : Nat} {h1 l1 h2 l2 : Bool} {a b : ByteArray} (ha : Cs c k n h1 l1 a) (hb : Cs k m p h2 l2 b) (hj : (l1 || h2) = true) : Cs c m (n + p) h1 l2 (a ++ b) := by
 obtain ⟨wa,da,ra,ca,ka⟩ := ha.words
 obtain ⟨wb,db,rb,cb,kb⟩ := hb.words
 obtain ⟨f,hf,cf⟩ := cnt_mono wb k db da cb ka
 refine ⟨?_,⟨wa ++ wb,f,?_,?_,by omega⟩,?_,?_,?_⟩
 ·rw [ByteArray.size_append]
  have := ha.size
  have := hb.size
  omega
 ·rw [app_list]
  refine ra.append rb fun x y hx hy => safe_join ?_ (hb.head y hy)
  cases l1 with
  | true =>
   obtain ⟨z,hz,hzl⟩ := ha.ln rfl
   rw [hx] at hz
   injection hz with hz
   rw [hz,hzl,Bool.false_and]
  | false =>
   cases h2 with
   | true =>
    obtain ⟨z,hz,hzl⟩ := hb.hn rfl
    rw [hy] at hz
    injection hz with hz
    rw [hz,hzl,Bool.and_false]
   | false => cases hj
 ·rw [cnt_app,ca]
  exact cf
 ·intro d hd
  rw [app_list,List.head?_append] at hd
  cases hh : a.data.toList.head? with
  | some x =>
   rw [hh] at hd
   exact ha.head d (by rw [hh]; exact hd)
  | none =>
   rw [hh] at hd
   exact hb.head d hd
 ·intro h
  obtain ⟨z,hz,hzl⟩ := ha.hn h
  exact ⟨z,by rw [app_list,List.head?_append,hz]; rfl,hzl⟩
 ·intro h
  obtain ⟨z,hz,hzl⟩ := hb.ln h
  exact ⟨z,by rw [app_list,List.getLast?_append,hz]; rfl,hzl⟩
theorem Cs.to {c k n c' k' n' : Nat} {h l : Bool} {s : ByteArray} (x : Cs c k n h l s) (hc : c' ≤ c) (hk : k ≤ k') (hn : n ≤ n') : Cs c' k' n' false false s := by
 obtain ⟨ws,d,r,e,hd⟩ := x.words
 obtain ⟨f,hf,cf⟩ := cnt_mono ws c d c' e hc
 exact ⟨Nat.le_trans x.size hn,⟨ws,f,r,cf,by omega⟩,x.head,fun h => (by cases h),fun h => (by cases h)⟩
theorem Cs.up {c k n c' k' n' : Nat} {h l : Bool} {s : ByteArray} (x : Cs c k n h l s) (hc : c' ≤ c) (hk : k ≤ k') (hn : n ≤ n') : Cs c' k' n' h l s := by
 obtain ⟨ws,d,r,e,hd⟩ := x.words
 obtain ⟨f,hf,cf⟩ := cnt_mono ws c d c' e hc
 exact ⟨Nat.le_trans x.size hn,⟨ws,f,r,cf,by omega⟩,x.head,x.hn,x.ln⟩
def csB (c k n : Nat) (h l : Bool) (b : List UInt8) : Bool := decide (b.length ≤ n) && (match wordsF b.length b with
 | some ws => (match cnt c ws with
  | some d => decide (d ≤ k)
  | none => false)
 | none => false) && (match b.head? with
 | some d => !(d == 61) && !(d == 42) && (!h || !isLD d)
 | none => !h) && (match b.getLast? with
 | some d => !l || !isLD d
 | none => !l)
theorem Cs.lit {c k n : Nat} {h l : Bool} {s : ByteArray} (hb : csB c k n h l s.data.toList = true) : Cs c k n h l s := by
 unfold csB at hb
 simp only [Bool.and_eq_true,decide_eq_true_eq] at hb
 obtain ⟨⟨⟨h1,h2⟩,h3⟩,h4⟩ := hb
 have hsz : s.size ≤ n := by rw [← Sc.len_size]; exact h1
 cases hw : wordsF s.data.toList.length s.data.toList with
 | none => rw [hw] at h2; cases h2
 | some ws =>
  rw [hw] at h2
  simp only at h2
  cases hc : cnt c ws with
  | none => rw [hc] at h2; cases h2
  | some d =>
   rw [hc] at h2
   refine ⟨hsz,⟨ws,d,Reads.of hw,hc,of_decide_eq_true h2⟩,?_,?_,?_⟩
   ·intro x hx
    rw [hx] at h3
    simp only [Bool.and_eq_true,Bool.not_eq_true',beq_eq_false_iff_ne] at h3
    exact h3.1
   ·rintro rfl
    cases hx : s.data.toList.head? with
    | none => rw [hx] at h3; cases h3
    | some x =>
     rw [hx] at h3
     simp at h3
     exact ⟨x,hx,h3.2⟩
   ·rintro rfl
    cases hx : s.data.toList.getLast? with
    | none => rw [hx] at h4; cases h4
    | some x =>
     rw [hx] at h4
     simp at h4
     exact ⟨x,hx,h4⟩
theorem Cs.one {c k n : Nat} {h l : Bool} {ss : List ByteArray} (hb : (ss.all fun s => csB c k n h l s.data.toList) = true) {s : ByteArray} (hs : s ∈ ss) : Cs c k n h l s := .lit (List.all_eq_true.1 hb s hs)
structure Xs (k n : Nat) (h l : Bool) (s : ByteArray) : Prop where
 cs : ∀ c,c + k ≤ 20 → Cs c (c + k) n h l s
theorem Xs.app {k m n p : Nat} {h1 l1 h2 l2 : Bool} {a b : ByteArray} (ha : Xs k n h1 l1 a) (hb : Xs m p h2 l2 b) (hj : (l1 || h2) = true) : Xs (k + m) (n + p) h1 l2 (a ++ b) :=
 ⟨fun c hc => ((ha.cs c (by omega)).app (hb.cs (c + k) (by omega)) hj).up (Nat.le_refl _) (by omega) (Nat.le_refl _)⟩
theorem Xs.to {k n k' n' : Nat} {h l : Bool} {s : ByteArray} (x : Xs k n h l s) (hk : k ≤ k') (hn : n ≤ n') : Xs k' n' false false s :=
 ⟨fun c hc => (x.cs c (by omega)).to (Nat.le_refl _) (by omega) hn⟩
theorem cnt_shift : ∀ (ws : List (List UInt8)) (c d : Nat),(ws.all fun w => !sepW ⟨w.toArray⟩) = true → cnt 0 ws = some d → c + d ≤ 20 → cnt c ws = some (c + d) := by
 have key : ∀ (ws : List (List UInt8)) (a c d : Nat),(ws.all fun w => !sepW ⟨w.toArray⟩) = true → cnt a ws = some d → c + d ≤ 20 → cnt (c + a) ws = some (c + d) := by
  intro ws
  induction ws with
  | nil =>
   intro a c d _ h _
   unfold cnt at h ⊢
   injection h with h
   rw [h]
  | cons w ws ih =>
   intro a c d hs h hc
   rw [List.all_cons,Bool.and_eq_true] at hs
   have hs1 : ¬ sepW ⟨w.toArray⟩ = true := by
    intro hh
    rw [hh] at hs
    cases hs.1
   have hmono : ∀ (ws : List (List UInt8)) (a d : Nat),(ws.all fun w => !sepW ⟨w.toArray⟩) = true → cnt a ws = some d → a ≤ d := by
    intro ws
    induction ws with
    | nil =>
     intro a d _ h
     unfold cnt at h
     injection h with h
     omega
    | cons w ws ih =>
     intro a d hs h
     rw [List.all_cons,Bool.and_eq_true] at hs
     have hs1 : ¬ sepW ⟨w.toArray⟩ = true := by
      intro hh
      rw [hh] at hs
      cases hs.1
     unfold cnt at h
     rw [if_neg hs1] at h
     split at h
     ·split at h
      ·have := ih _ _ hs.2 h; omega
      ·cases h
     ·exact ih _ _ hs.2 h
   unfold cnt at h ⊢
   rw [if_neg hs1] at h ⊢
   split at h
   ·rename_i ho
    rw [if_pos ho]
    split at h
    ·have := hmono _ _ _ hs.2 h
     rw [if_pos (by omega)]
     exact ih (a + 1) c d hs.2 h hc
    ·cases h
   ·rename_i ho
    rw [if_neg ho]
    exact ih a c d hs.2 h hc
 intro ws c d hs h hc
 have := key ws 0 c d hs h hc
 rwa [Nat.add_zero] at this
def xsB (k n : Nat) (h l : Bool) (b : List UInt8) : Bool := csB 0 k n h l b && (match wordsF b.length b with
 | some ws => ws.all fun w => !sepW ⟨w.toArray⟩
 | none => false)
theorem Xs.lit {k n : Nat} {h l : Bool} {s : ByteArray} (hb : xsB k n h l s.data.toList = true) : Xs k n h l s := by
 unfold xsB at hb
 rw [Bool.and_eq_true] at hb
 obtain ⟨h1,h2⟩ := hb
 have x := Cs.lit h1
 refine ⟨fun c hc => ⟨x.size,?_,x.head,x.hn,x.ln⟩⟩
 unfold csB at h1
 simp only [Bool.and_eq_true,decide_eq_true_eq] at h1
 obtain ⟨⟨⟨_,h3⟩,_⟩,_⟩ := h1
 cases hw : wordsF s.data.toList.length s.data.toList with
 | none => rw [hw] at h2; cases h2
 | some ws =>
  rw [hw] at h2 h3
  simp only at h2 h3
  cases hd : cnt 0 ws with
  | none => rw [hd] at h3; cases h3
  | some d =>
   rw [hd] at h3
   have hdk : d ≤ k := of_decide_eq_true h3
   exact ⟨ws,c + d,Reads.of hw,cnt_shift ws c d h2 hd (by omega),by omega⟩
theorem Xs.one {k n : Nat} {h l : Bool} {ss : List ByteArray} (hb : (ss.all fun s => xsB k n h l s.data.toList) = true) {s : ByteArray} (hs : s ∈ ss) : Xs k n h l s := .lit (List.all_eq_true.1 hb s hs)
end Go.Proofs.YtneohanphabneaaGreatDoor.Gn
