/-
  The plain law of what is written of a tree: the words of a module's text.
-/
import Derived.Test.YtneohanphabneaaGreatDoorMQ3
namespace Go.Proofs.YtneohanphabneaaGreatDoor.Pr
open Ps Sc
theorem fit_nil : Fit [] := Reads.nil
theorem safe_first {c : UInt8} (h : c = 32 ∨ c = 10 ∨ c = 59) (d : UInt8) : safe c d = true := by
 have e : isLD c = false ∧ c ≠ 58 ∧ c ≠ 60 ∧ c ≠ 62 ∧ c ≠ 40 := by
  rcases h with rfl | rfl | rfl <;> decide
 exact safe_of (by rw [e.1,Bool.false_and]) e.2.1 e.2.2.1 e.2.2.2.1 e.2.2.2.2
theorem safe_second {d : UInt8} (h : d = 32 ∨ d = 10 ∨ d = 59) (c : UInt8) : safe c d = true := by
 have e : isLD d = false ∧ d ≠ 61 ∧ d ≠ 42 := by
  rcases h with rfl | rfl | rfl <;> decide
 unfold safe
 rw [e.1]
 simp [e.2.1,e.2.2]
theorem Fit.app {a b : List Pc} (ha : Fit a) (hb : Fit b) (hs : Sc.Safe (txt a) (txt b)) : Fit (a ++ b) := by
 unfold Fit
 rw [txt_app,wds_app]
 exact Reads.append ha hb hs
theorem fit_ind : ∀ n : Nat,Fit (List.replicate n .sp) ∧ ∀ c,(txt (List.replicate n .sp)).getLast? = some c → c = 32
 | 0 => ⟨fit_nil,fun c h => by cases h⟩
 | n + 1 => by
  obtain ⟨h1,h2⟩ := fit_ind n
  rw [List.replicate_succ']
  refine ⟨h1.app (Reads.of (by rfl)) fun c d _ hd => safe_second (.inl (by cases hd; rfl)) c,fun c h => ?_⟩
  rw [txt_app,List.getLast?_append] at h
  cases h; rfl
def Ln (ps : List Pc) : Prop := Fit ps ∧ ∀ c,(txt ps).getLast? = some c → c = 10
theorem Ln.nil : Ln [] := ⟨fit_nil,fun c h => by cases h⟩
theorem Ln.app {a b : List Pc} (ha : Ln a) (hb : Ln b) : Ln (a ++ b) := by
 refine ⟨ha.1.app hb.1 fun c d hc _ => safe_first (.inr (.inl (ha.2 c hc))) d,fun c h => ?_⟩
 rw [txt_app,List.getLast?_append] at h
 cases hb2 : (txt b).getLast? with
 | none => rw [hb2] at h; exact ha.2 c h
 | some x => rw [hb2] at h; cases h; exact hb.2 _ hb2
theorem Ln.line {s : List Pc} (d : Nat) (h : Fit s) : Ln (line d s) := by
 unfold Pr.line ind
 obtain ⟨h1,h2⟩ := fit_ind (2 * d)
 have h3 : Fit (List.replicate (2 * d) .sp ++ s) := h1.app h fun c x hc _ => safe_first (.inl (h2 c hc)) x
 refine ⟨h3.app (Reads.of (by rfl)) fun c x _ hx => safe_second (.inr (.inl (by cases hx; rfl))) c,fun c h => ?_⟩
 rw [txt_app,List.getLast?_append] at h
 cases h; rfl
theorem Ln.flatMap {α : Type} {f : α → List Pc} : ∀ l : List α,(∀ x ∈ l,Ln (f x)) → Ln (l.flatMap f)
 | [],_ => Ln.nil
 | x :: l,h => by
  rw [List.flatMap_cons]
  exact (h x List.mem_cons_self).app (Ln.flatMap l fun y hy => h y (List.mem_cons_of_mem _ hy))
def Se (e : List Pc) : Prop := e = [] ∨ e = [s_semi]
theorem Fit.se {s e : List Pc} (h : Fit s) (he : Se e) : Fit (s ++ e) := by
 rcases he with rfl | rfl
 ·rw [List.append_nil]; exact h
 ·exact h.app (Reads.of (by rfl)) fun c x _ hx => safe_second (.inr (.inr (by cases hx; rfl))) c
theorem Fit.semi {s : List Pc} (h : Fit s) : Fit (s ++ [s_semi]) := h.se (.inr rfl)
theorem Xe.ed {L : Nat} {t : Tree} (h : Xe L t) : EX (expr t 0) := by
 obtain ⟨M,_,h,_⟩ := h
 exact h.ed (by decide)
theorem De.ed {L : Nat} {t : Tree} (h : De L t) : EX (expr t 3) := by
 obtain ⟨m,h,_⟩ := h
 exact h.ed (by decide)
theorem Fit_sur {a b x : List Pc} (p q u v : UInt8) (ha : Ed (is_ p) (is_ q) a) (hx : EX x) (hb : Ed (is_ u) (is_ v) b) (hq : isLD q = false) (hu : isLD u = false) : Fit (a ++ x ++ b) :=
 ((ha.app hx (sFX hq)).app hb (sXF hu)).fit
theorem Fit_pre {a x : List Pc} (p q : UInt8) (ha : Ed (is_ p) (is_ q) a) (hx : EX x) (hq : isLD q = false) : Fit (a ++ x) := (ha.app hx (sFX hq)).fit
theorem Fit_word4 (k : Nat) : ∃ c,Ed (is_ c) (is_ 40) [word4 k,s_lp] := by
 unfold word4
 split
 ·exact ⟨78,Ed.of _ _ (by decide) rfl rfl⟩
 ·split
  ·exact ⟨79,Ed.of _ _ (by decide) rfl rfl⟩
  ·split
   ·exact ⟨71,Ed.of _ _ (by decide) rfl rfl⟩
   ·exact ⟨65,Ed.of _ _ (by decide) rfl rfl⟩
theorem Fit_built {x : List Pc} (k : Nat) (hx : EX x) : Fit ([word4 k,s_lp] ++ x ++ [s_rp]) := by
 obtain ⟨c,h⟩ := Fit_word4 k
 exact Fit_sur _ 40 41 41 h hx (Ed.of _ _ (by decide) rfl rfl) (by decide) (by decide)
mutual
theorem Pst.ln : ∀ {L : Nat} {t : Tree},Pst L t → ∀ d e,Se e → Ln (stmt t d e)
 | _,_,.asg hd hx,d,e,he => by
  unfold stmt
  refine Ln.line d (Fit.se ?_ he)
  exact ((hd.ed.app (Ed.of (ps := [.sp,s_asg,.sp]) 32 32 (by decide) rfl rfl) (sXF (by decide))).app hx.ed (sFX (by decide))).fit
 | _,_,.call (ts := ts) hd ha,d,e,he => by
  unfold stmt
  refine Ln.line d (Fit.se ?_ he)
  show Fit (expr _ 3 ++ if ts.isEmpty then [] else argsP (ts.map expr))
  split
  ·rw [List.append_nil]; exact hd.ed.fit
  ·refine (EX_suf hd.ed (EX_args (l := (ts.map expr).map fun f => f 0) ?_) (by decide) (by decide)).fit
   intro a hm
   simp only [List.mem_map] at hm
   obtain ⟨f,⟨t,ht,rfl⟩,rfl⟩ := hm
   exact ha.1.ed t ht
 | _,_,.ifs (num := num) hi,d,e,he => by
  obtain ⟨h1,h2⟩ := hi.ln d kIF (Ed.of (ps := [kIF,.sp]) 73 32 (by decide) rfl rfl)
  unfold stmt
  refine (h1.app ?_).app (Ln.line d (Fit.se (Reads.of (by decide)) he))
  split
  ·rename_i hn
   exact (Ln.line d (Reads.of (by decide))).app (h2 hn)
  ·exact Ln.nil
 | _,_,.while_ hx hb,d,e,he => by
  have h2 := hb.ln d
  unfold stmt
  refine ((Ln.line d ?_).app ?_).app (Ln.line d (Fit.se (Reads.of (by decide)) he))
  ·exact Fit_sur 87 32 32 79 (Ed.of _ _ (by decide) rfl rfl) hx.ed (Ed.of _ _ (by decide) rfl rfl) (by decide) (by decide)
  ·unfold blockL blockL; exact h2
 | _,_,.repeat_ hx hb,d,e,he => by
  have h2 := hb.ln d
  unfold stmt
  refine ((Ln.line d (Reads.of (by decide))).app ?_).app (Ln.line d (Fit.se ?_ he))
  ·unfold blockL; exact h2
  ·exact Fit_pre 85 32 (Ed.of _ _ (by decide) rfl rfl) hx.ed (by decide)
 | _,_,.ret0,d,e,he => by
  unfold stmt
  exact Ln.line d (Fit.se (Reads.of (by decide)) he)
 | _,_,.ret1 hx,d,e,he => by
  unfold stmt
  exact Ln.line d (Fit.se (Fit_pre 82 32 (Ed.of _ _ (by decide) rfl rfl) hx.ed (by decide)) he)
 | _,_,.new hd,d,e,he => by
  unfold stmt
  exact Ln.line d (Fit.se (Fit_built 20 (by obtain ⟨m,h,_⟩ := hd; exact h.ed (by decide))) he)
 | _,_,.out hx,d,e,he => by
  unfold stmt
  exact Ln.line d (Fit.se (Fit_built 21 hx.ed) he)
 | _,_,.get hd,d,e,he => by
  unfold stmt
  exact Ln.line d (Fit.se (Fit_built 22 (by obtain ⟨m,h,_⟩ := hd; exact h.ed (by decide))) he)
 | _,_,.assert hx,d,e,he => by
  unfold stmt
  exact Ln.line d (Fit.se (Fit_built 23 hx.ed) he)
theorem Pi.ln : ∀ {L num : Nat} {ts : List Tree},Pi L num ts → ∀ (d : Nat) (w : Pc) {c : UInt8},Ed (is_ c) (is_ 32) [w,.sp] → Ln (ifs d w ts (blockL ts)) ∧ (num = 1 → Ln (blk (blockL ts) (ts.length - 1) d))
 | _,_,_,.last hx hb,d,w,c,hw => by
  have h2 := hb.ln d
  refine ⟨?_,fun h => by cases h⟩
  unfold blockL blockL blockL ifs ifs
  exact ((Ln.line d (Fit_sur c 32 32 78 hw hx.ed (Ed.of _ _ (by decide) rfl rfl) (by decide) (by decide))).app h2).app Ln.nil
 | _,_,_,.els hx hb he,d,w,c,hw => by
  have h2 := hb.ln d
  have h3 := he.ln d
  refine ⟨?_,fun _ => ?_⟩
  ·unfold blockL blockL blockL ifs ifs
   exact ((Ln.line d (Fit_sur c 32 32 78 hw hx.ed (Ed.of _ _ (by decide) rfl rfl) (by decide) (by decide))).app h2).app Ln.nil
  ·unfold blockL blockL blockL
   exact h3
 | _,_,_,.more (ts := ts) (num := num) hx hb hi,d,w,c,hw => by
  have h2 := hb.ln d
  obtain ⟨h3,h4⟩ := hi.ln d kELSIF (Ed.of (ps := [kELSIF,.sp]) 69 32 (by decide) rfl rfl)
  have hne : ts ≠ [] := by cases hi <;> simp
  refine ⟨?_,fun hn => ?_⟩
  ·unfold blockL blockL ifs
   exact ((Ln.line d (Fit_sur c 32 32 78 hw hx.ed (Ed.of _ _ (by decide) rfl rfl) (by decide) (by decide))).app h2).app h3
  ·have := h4 hn
   unfold blockL blockL
   cases ts with
   | nil => exact absurd rfl hne
   | cons t ts => exact this
theorem Pb.ln : ∀ {L : Nat} {t : Tree},Pb L t → ∀ d,Ln (block t d)
 | _,_,.mk h,d => by
  have := h.ln (d + 1)
  unfold block
  exact this
theorem Psq.ln : ∀ {L : Nat} {ts : List Tree},Psq L ts → ∀ d,Ln (seqS ts d)
 | _,_,.nil,d => by unfold seqS; exact Ln.nil
 | _,_,.cons h hs,d => by
  have h1 := h.ln d
  have h2 := hs.ln d
  unfold seqS
  refine (h1 _ ?_).app h2
  split
  ·exact .inl rfl
  ·exact .inr rfl
end
theorem Ed_star {n : ByteArray} (num : Nat) (h : isName n = true) : Ed hX (fun c => lX c || c == 42) ([nm n] ++ star num) := by
 unfold star
 split
 ·exact ((EX_nm h).app (Ed.of (ps := [s_star]) 42 42 (by decide) rfl rfl) (sXF (by decide))).mono (fun _ h => h) (fun c hc => by simp [is_] at hc; simp [hc])
 ·rw [List.append_nil]
  exact (EX_nm h).mono (fun _ h => h) (fun c hc => by rw [hc]; rfl)
theorem sSt {x : UInt8} (hx : isLD x = false) : ∀ c d,(lX c || c == 42) = true → is_ x d = true → safe c d = true := by
 intro c d h1 h2
 rw [Bool.or_eq_true] at h1
 rcases h1 with h1 | h1
 ·exact sXF hx c d h1 h2
 ·obtain rfl : c = 42 := by simpa using h1
  exact safe_of (by rw [show isLD 42 = false from by decide,Bool.false_and]) (by decide) (by decide) (by decide) (by decide)
theorem EX_var {n : ByteArray} {num : Nat} {x : Tree} (h : isName n = true) (hx : PT x) : EX ([nm n] ++ star num ++ [s_colon,.sp] ++ typeName x) :=
 (((Ed_star num h).app (Ed.of (ps := [s_colon,.sp]) 58 32 (by decide) rfl rfl) (sSt (by decide))).app (EX_type hx) (sFX (by decide)))
theorem EX_variable {kind : Nat} {t : Tree} (h : Pdec kind PT t) : EX (variable_ t) := by
 obtain ⟨n,num,a,x,rfl,hn,_,hx⟩ := h
 exact EX_var hn hx
theorem EX_decl {n : ByteArray} {num : Nat} {x : List Pc} (h : isName n = true) (hx : EX x) : EX ([nm n] ++ star num ++ [.sp,s_eq,.sp] ++ x) :=
 ((Ed_star num h).app (Ed.of (ps := [.sp,s_eq,.sp]) 32 32 (by decide) rfl rfl) (sSt (by decide))).app hx (sFX (by decide))
theorem EX_pre {a x : List Pc} {p q : UInt8} (ha : Ed (is_ p) (is_ q) a) (hx : EX x) (hp : hX p = true) (hq : isLD q = false) : EX (a ++ x) := (ha.app hx (sFX hq)).fx hp
theorem EX_fields : ∀ fs : List Tree,(∀ f ∈ fs,Pdec 11 PT f) → fs = [] ∨ Ed (is_ 32) (is_ 59) (fs.flatMap (fun f => [.sp] ++ variable_ f ++ [s_semi]))
 | [],_ => .inl rfl
 | f :: fs,h => by
  right
  have h1 := EX_variable (h f List.mem_cons_self)
  have h2 : Ed (is_ 32) (is_ 59) ([.sp] ++ variable_ f ++ [s_semi]) := ((Ed.of (ps := [.sp]) 32 32 (by decide) rfl rfl).app h1 (sFX (by decide))).app (Ed.of (ps := [s_semi]) 59 59 (by decide) rfl rfl) (sXF (by decide))
  rw [List.flatMap_cons]
  rcases EX_fields fs (fun x hx => h x (List.mem_cons_of_mem _ hx)) with rfl | ih
  ·rw [List.flatMap_nil,List.append_nil]; exact h2
  ·exact h2.app ih (sFF (by decide))
theorem EX_typ {t : Tree} (h : Pty t) : EX (typ t) := by
 cases h with
 | arr hn hx =>
  rename_i n a x
  have := ((Ed.of (ps := [kARRAY,.sp]) 65 32 (by decide) rfl rfl).app (EX_dec hn) (sFX (by decide))).app (Ed.of (ps := [.sp,kOF,.sp]) 32 32 (by decide) rfl rfl) (sXF (by decide))
  exact (this.app (EX_type hx) (sFX (by decide))).fx (by decide)
 | ptr hx => exact EX_pre (Ed.of (ps := [kPOINTER,.sp,kTO,.sp]) 80 32 (by decide) rfl rfl) (EX_type hx) (by decide) (by decide)
 | rec_ hb hf =>
  rename_i a b fs
  have hend := Ed.of (ps := [.sp,kEND]) 32 68 (by decide) rfl rfl
  have h1 : ∃ q,lX q = true ∧ Ed (is_ 82) (is_ q) ([kRECORD] ++ (if kindT b = 0 then [] else [.sp,s_lp] ++ typeName b ++ [s_rp])) := by
   rcases hb with ⟨a2,rfl⟩ | hb
   ·exact ⟨68,by decide,by rw [if_pos (show kindT (.node 0 ⟨#[]⟩ 0 a2 []) = 0 from rfl)]; exact Ed.of _ _ (by decide) rfl rfl⟩
   ·have hk : kindT b ≠ 0 := by cases hb <;> simp [kindT]
    rw [if_neg hk]
    refine ⟨41,by decide,?_⟩
    exact (Ed.of (ps := [kRECORD]) 82 68 (by decide) rfl rfl).app (((Ed.of (ps := [.sp,s_lp]) 32 40 (by decide) rfl rfl).app (EX_type hb) (sFX (by decide))).app (Ed.of (ps := [s_rp]) 41 41 (by decide) rfl rfl) (sXF (by decide))) (sFF (by decide))
  obtain ⟨q,hq,h1⟩ := h1
  show EX ([kRECORD] ++ (if kindT b = 0 then [] else [.sp,s_lp] ++ typeName b ++ [s_rp]) ++ fs.flatMap (fun f => [.sp] ++ variable_ f ++ [s_semi]) ++ [.sp,kEND])
  rcases EX_fields fs hf with rfl | h2
  ·rw [List.flatMap_nil,List.append_nil]
   exact (((h1.lx hq).app hend (sXF (by decide))).fx (by decide)).lx (by decide)
  ·exact ((((h1.lx hq).app h2 (sXF (by decide))).app hend (sFF (by decide))).fx (by decide)).lx (by decide)
theorem Ln_section {what : Tree → Prop} {w : Pc} {t : Tree} {one : Tree → List Pc} (d : Nat) (h : Plist what t) (hw : Fit [w]) (ho : ∀ x,what x → Fit (one x)) : Ln (section_ d w (subsT t) one) := by
 obtain ⟨a,ts,rfl,h⟩ := h
 unfold section_
 split
 ·exact Ln.nil
 ·exact (Ln.line d hw).app (Ln.flatMap _ fun x hx => Ln.line (d + 1) (ho x (h x hx)).semi)
theorem EX_param {x : Tree} (h : Pdec 8 PT x) : EX (param x) := by
 obtain ⟨n,num,a,t,rfl,hn,_,ht⟩ := h
 have h1 : EX ([nm n] ++ [s_colon,.sp] ++ typeName t) := (((EX_nm hn).app (Ed.of (ps := [s_colon,.sp]) 58 32 (by decide) rfl rfl) (sXF (by decide))).app (EX_type ht) (sFX (by decide)))
 show EX ((if num = 1 then [kVAR,.sp] else []) ++ ([nm n] ++ [s_colon,.sp]) ++ typeName t)
 rw [List.append_assoc]
 split
 ·exact EX_pre (Ed.of (ps := [kVAR,.sp]) 86 32 (by decide) rfl rfl) h1 (by decide) (by decide)
 ·exact h1
theorem Pbase.kind {t : Tree} (h : Pbase t) : kindT t = 0 ∨ (kindT t ≠ 0 ∧ PT t) := by
 rcases h with ⟨a,rfl⟩ | h
 ·exact .inl rfl
 ·exact .inr ⟨by cases h <;> simp [kindT],h⟩
theorem Ln_proc {t : Tree} (h : Pproc t) : Ln (proc t) := by
 obtain ⟨n,num,a,ps,r,vs,b,rfl,hn,hnum,hps,hr,hvs,hb⟩ := h
 obtain ⟨a1,pl,rfl,hp⟩ := hps
 have h0 : Ed (is_ 80) (fun c => lX c || c == 42) ([kPROCEDURE,.sp] ++ ([nm n] ++ star num)) := (Ed.of (ps := [kPROCEDURE,.sp]) 80 32 (by decide) rfl rfl).app (Ed_star num hn) (sFX (by decide))
 have hS : ∀ {Z : List Pc},Ed (is_ 40) (is_ 41) Z → Ed (is_ 80) (fun c => lX c || c == 42) ([kPROCEDURE,.sp] ++ ([nm n] ++ star num) ++ Z) := fun hZ => (h0.app hZ (sSt (by decide))).mono (fun _ h => h) (fun c hc => by
  obtain rfl : c = 41 := by simpa [is_] using hc
  rfl)
 have hT : ∀ {Z : List Pc},Ed (is_ 80) (fun c => lX c || c == 42) Z → Fit (Z ++ (if kindT r = 0 then [] else [s_colon,.sp] ++ typeName r) ++ [s_semi]) := fun {Z} hZ => by
  rcases hr.kind with hk | ⟨hk,hr⟩
  ·rw [if_pos hk,List.append_nil]; exact hZ.fit.semi
  ·rw [if_neg hk]
   refine Fit.semi ?_
   rw [← List.append_assoc]
   exact ((hZ.app (Ed.of (ps := [s_colon,.sp]) 58 32 (by decide) rfl rfl) (sSt (by decide))).app (EX_type hr) (sFX (by decide))).fit
 have h1 : Fit ([kPROCEDURE,.sp,nm n] ++ star num ++ (if pl.isEmpty && kindT r = 0 then [] else [s_lp] ++ joinP [s_semi,.sp] (pl.map param) ++ [s_rp]) ++ (if kindT r = 0 then [] else [s_colon,.sp] ++ typeName r) ++ [s_semi]) := by
  rw [show ([kPROCEDURE,.sp,nm n] ++ star num : List Pc) = [kPROCEDURE,.sp] ++ ([nm n] ++ star num) from rfl]
  refine hT ?_
  split
  ·rw [List.append_nil]; exact h0
  ·refine hS ?_
   have a1 := Ed.of (ps := [s_lp]) 40 40 (by decide) rfl rfl
   have a2 := Ed.of (ps := [s_rp]) 41 41 (by decide) rfl rfl
   cases pl with
   | nil => exact Ed.of 40 41 (by decide) rfl rfl
   | cons x pl =>
    have := joinP_X (sep := [s_semi,.sp]) (Ed.of 59 32 (by decide) rfl rfl) (by decide) ((x :: pl).map param) (by simp) (fun y hy => by
     obtain ⟨z,hz,rfl⟩ := List.mem_map.1 hy
     exact EX_param (hp z hz))
    exact (a1.app this (sFX (by decide))).app a2 (sXF (by decide))
 have h2 : Ln (section_ 0 kVAR (subsT vs) variable_) := Ln_section 0 hvs (Reads.of (by decide)) fun x hx => by
  obtain ⟨n,a,y,rfl,hn,hy⟩ := hx
  exact (EX_var (num := 0) hn hy).fit
 have h3 : Fit [kEND,.sp,nm n,s_semi] := Fit.semi (s := [kEND,.sp] ++ [nm n]) (Fit_pre 69 32 (Ed.of _ _ (by decide) rfl rfl) (EX_nm hn) (by decide))
 exact ((((Ln.line 0 h1).app h2).app (Ln.line 0 (Reads.of (by decide)))).app (hb.ln 0)).app (Ln.line 0 h3)
theorem Ln_module {t : Tree} (h : Pmod t) : Ln (module t) := by
 obtain ⟨n,a,im,cs,ty,vs,ps,b,rfl,hn,him,hcs,hty,hvs,hps,hb⟩ := h
 have h1 : Fit [kMODULE,.sp,nm n,s_semi] := Fit.semi (s := [kMODULE,.sp] ++ [nm n]) (Fit_pre 77 32 (Ed.of _ _ (by decide) rfl rfl) (EX_nm hn) (by decide))
 have h9 : Fit [kEND,.sp,nm n,s_dot] := by
  refine Fit.app (a := [kEND,.sp] ++ [nm n]) (b := [s_dot]) (Fit_pre 69 32 (Ed.of _ _ (by decide) rfl rfl) (EX_nm hn) (by decide)) (Reads.of (by decide)) ?_
  intro c d hc hd
  cases hd
  obtain ⟨_,_,x,hx,hl⟩ := EX_nm hn
  rw [txt_app,List.getLast?_append,hx] at hc
  cases hc
  exact sXF (x := 46) (by decide) _ _ hl (by decide)
 have h2 : Ln (if (subsT im).isEmpty then [] else line 0 ([kIMPORT,.sp] ++ joinP [s_comma,.sp] ((subsT im).map fun i => [nm (nameT i)]) ++ [s_semi])) := by
  obtain ⟨a1,l,rfl,hl⟩ := him
  show Ln (if l.isEmpty then [] else line 0 ([kIMPORT,.sp] ++ joinP [s_comma,.sp] (l.map fun i => [nm (nameT i)]) ++ [s_semi]))
  split
  ·exact Ln.nil
  ·rename_i hne
   refine Ln.line 0 (Fit.semi (Fit_pre 73 32 (Ed.of _ _ (by decide) rfl rfl) (joinP_X (Ed.of 44 32 (by decide) rfl rfl) (by decide) _ ?_ ?_) (by decide)))
   ·intro e; rw [List.map_eq_nil_iff] at e; subst e; exact hne rfl
   ·intro y hy
    obtain ⟨z,hz,rfl⟩ := List.mem_map.1 hy
    obtain ⟨m,a2,rfl,hm⟩ := hl z hz
    exact EX_nm hm
 have h3 : Ln (section_ 0 kCONST (subsT cs) const_) := Ln_section 0 hcs (Reads.of (by decide)) fun x hx => by
  obtain ⟨n,num,a,y,rfl,hn,_,hy⟩ := hx
  exact (EX_decl (num := num) hn hy.ed).fit
 have h4 : Ln (section_ 0 kTYPE (subsT ty) named) := Ln_section 0 hty (Reads.of (by decide)) fun x hx => by
  obtain ⟨n,num,a,y,rfl,hn,_,hy⟩ := hx
  exact (EX_decl (num := num) hn (EX_typ hy)).fit
 have h5 : Ln (section_ 0 kVAR (subsT vs) variable_) := Ln_section 0 hvs (Reads.of (by decide)) fun x hx => (EX_variable hx).fit
 have h6 : Ln ((subsT ps).flatMap proc) := by
  obtain ⟨a1,l,rfl,hl⟩ := hps
  exact Ln.flatMap _ fun x hx => Ln_proc (hl x hx)
 have h7 : Ln (if (subsT b).isEmpty then [] else line 0 [kBEGIN] ++ block b 0) := by
  split
  ·exact Ln.nil
  ·exact (Ln.line 0 (Reads.of (by decide))).app (hb.ln 0)
 exact (((((((Ln.line 0 h1).app h2).app h3).app h4).app h5).app h6).app h7).app (Ln.line 0 h9)
end Go.Proofs.YtneohanphabneaaGreatDoor.Pr
