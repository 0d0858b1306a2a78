/-
  A law on a region that draws its order: what it loads may be taken first; the calls, the new blocks and the stores follow in the one order that is left.
-/
import Derived.OrdersHeld
import Derived.RegionTactic
namespace Go.Proofs.YtneohanphabneaaGreatDoor.Ch
open Go
theorem p1 {α : Type} (xs : List α) (i : Nat) (a : α) : xs.toArray.setIfInBounds i a = (xs.set i a).toArray := List.setIfInBounds_toArray ..
theorem p2 {α : Type} (x : α) (xs : List α) (a : α) : (x :: xs).set 0 a = a :: xs := rfl
theorem p3 {α : Type} (x : α) (xs : List α) (i : Nat) (a : α) : (x :: xs).set (i + 1) a = x :: xs.set i a := rfl
section
variable {P : Program} {ops : Array Oper} {Q : Exit → Act → World → Prop} {md : Region.Mode} {C : World → Prop} {post : List Nat}
def Np (post : List Nat) (listed : Array Bool) : Prop := ∀ j ∈ post,listed.getD j false = false
theorem Np.set {listed : Array Bool} {i : Nat} (hi : i ∉ post) : Np post (listed.setIfInBounds i true) ↔ Np post listed := by
 unfold Np
 refine forall_congr' fun j => forall_congr' fun hj => ?_
 have hne : i ≠ j := fun e => hi (by rw [e]; exact hj)
 rw [getD_set_ne false hne]
def wpAnyC (P : Program) (md : Region.Mode) (ops : Array Oper) (Q : Exit → Act → World → Prop) (C : World → Prop) (post : List Nat) : Nat → Array Bool → Act → World → Prop
 | 0,listed,a,w => Region.ready md ops listed = [] ∧ Q .normal a w
 | fuel + 1,listed,a,w =>
  (Region.ready md ops listed = [] → Q .normal a w) ∧
  ∀ i ∈ Region.ready md ops listed,wpOp P ops Q i (fun a' w' => (Np post (listed.setIfInBounds i true) → C w') ∧ wpAnyC P md ops Q C post fuel (listed.setIfInBounds i true) a' w') a w
theorem wpAny_of_C : ∀ (fuel : Nat) (listed : Array Bool) (a : Act) (w : World),wpAnyC P md ops Q C post fuel listed a w → wpAny P md ops Q fuel listed a w
 | 0,_,_,_,h => h
 | fuel + 1,_,_,_,h => ⟨h.1,fun i hi => wpOp_mono (fun a' w' h' => wpAny_of_C fuel _ a' w' h'.2) (h.2 i hi)⟩
theorem wpAnyC_first {S : World → Prop} {i : Nat} {oi : Oper} {v : Value} (hi : ops[i]? = some oi) (hsel : ∀ (j : Nat) (o : Oper) cs b,ops[j]? = some o → o.op ≠ .select cs b)
  (hQ : ∀ c a w,Q (.panic c) (a.put oi.dst v) w → Q (.panic c) a w) (hip : i ∉ post) (T : Array Bool → Prop)
  (hS : ∀ listed w,T listed → (Np post listed → C w) → S w)
  (hT : ∀ listed j oj,T listed → ops[j]? = some oj → (∀ e ∈ oj.after,Region.binds md e = true → e.on ≠ i) → T (listed.setIfInBounds j true)) :
  ∀ (fuel : Nat) (listed : Array Bool) (a : Act) (w : World),T listed →
   (∀ j oj,ops[j]? = some oj → j ≠ i → listed.getD j true = false → (∀ e ∈ oj.after,Region.binds md e = true → e.on ≠ i) → oi.apart ops oj = true) →
   i ∈ Region.ready md ops listed → YieldsIf P ops S oi v a → (Np post listed → C w) →
   wpAnyC P md ops Q C post fuel (listed.setIfInBounds i true) (a.put oi.dst v) w → wpAnyC P md ops Q C post (fuel + 1) listed a w := by
 intro fuel
 induction fuel with
 | zero =>
  intro listed a w hTl _ hr hy hC H
  refine ⟨fun h => (by rw [h] at hr; cases hr),fun j hj => ?_⟩
  by_cases hji : j = i
  ·subst hji; exact hy.wpOp hi (hS _ _ hTl hC) ⟨fun hn => hC ((Np.set hip).1 hn),H⟩
  ·have := ready_mono hj hji
   rw [H.1] at this
   cases this
 | succ fuel ih =>
  intro listed a w hTl hfree hr hy hC H
  refine ⟨fun h => (by rw [h] at hr; cases hr),fun j hj => ?_⟩
  by_cases hji : j = i
  ·subst hji; exact hy.wpOp hi (hS _ _ hTl hC) ⟨fun hn => hC ((Np.set hip).1 hn),H⟩
  ·have h1 := H.2 j (ready_mono hj hji)
   obtain ⟨hjun,oj,hoj,hall⟩ := mem_ready.1 hj
   have hnot : ∀ e ∈ oj.after,Region.binds md e = true → e.on ≠ i := fun e he hb heq => by
    have h1 := hall e he hb
    have h0 := (mem_ready.1 hr).1
    rw [heq] at h1
    rcases Nat.lt_or_ge i listed.size with h' | h'
    ·simp [h'] at h0 h1; rw [h0] at h1; cases h1
    ·simp [Array.getElem?_eq_none h'] at h1
   have h2 := wpOp_putIf hoj (hfree j oj hoj hji hjun hnot) (fun cs b => hsel i oi cs b hi) (fun cs b => hsel j oj cs b hoj) hQ hy h1
   have hfree' : ∀ k ok,ops[k]? = some ok → k ≠ i → (listed.setIfInBounds j true).getD k true = false →
     (∀ e ∈ ok.after,Region.binds md e = true → e.on ≠ i) → oi.apart ops ok = true := fun k ok hk hki hun hno => by
    refine hfree k ok hk hki ?_ hno
    by_cases hjk : j = k
    ·subst hjk; exact hjun
    ·rw [getD_set_ne true hjk] at hun; exact hun
   refine wpOp_mono (fun a' w' h3 => ?_) h2
   obtain ⟨hy3,hc3,h3⟩ := h3
   rw [Array.setIfInBounds_comm _ _ (Ne.symm hji)] at hc3 h3
   have hc4 : Np post (listed.setIfInBounds j true) → C w' := fun hn => hc3 ((Np.set hip).2 hn)
   exact ⟨hc4,ih (listed.setIfInBounds j true) a' w' (hT _ j oj hTl hoj hnot) hfree' (ready_mono hr (Ne.symm hji)) hy3 hc4 h3⟩
def edgesB (md : Region.Mode) (ops : Array Oper) (ls post : List Nat) : Bool :=
 post.all fun j => match ops[j]? with
  | some oj => ls.all fun i => oj.after.any fun e => Region.binds md e && e.on == i
  | none => false
def tailB (md : Region.Mode) (ops : Array Oper) : List Nat → Array Bool → Bool
 | j :: tail,listed => decide (Region.ready md ops listed = [j]) && tailB md ops tail (listed.setIfInBounds j true)
 | [],listed => (Region.ready md ops listed).isEmpty
def orderB (md : Region.Mode) (ops : Array Oper) (post tail : List Nat) : List Nat → Array Bool → Bool
 | i :: pre,listed => (Region.ready md ops listed).contains i && (Region.free md ops listed i && (!post.contains i && orderB md ops post tail pre (listed.setIfInBounds i true)))
 | [],listed => tailB md ops tail listed
def Run (P : Program) (ops : Array Oper) (Q : Exit → Act → World → Prop) (C : World → Prop) (ls post : List Nat) : List Nat → List Nat → Act → World → Prop
 | i :: pre,tail,a,w => ∃ oi v,ops[i]? = some oi ∧ YieldsIf P ops (if ls.contains i then C else fun _ => True) oi v a ∧ Run P ops Q C ls post pre tail (a.put oi.dst v) w
 | [],j :: tail,a,w => wpOp P ops Q j (fun a' w' => (post.contains j = false → C w') ∧ Run P ops Q C ls post [] tail a' w') a w
 | [],[],a,w => Q .normal a w
theorem wpAnyC_of_run (hs : Region.noSelect ops = true) (hQ : ∀ c a d v w,Q (.panic c) (Act.put a d v) w → Q (.panic c) a w) {ls : List Nat} (he : edgesB md ops ls post = true) :
  ∀ (pre tail : List Nat) (listed : Array Bool) (a : Act) (w : World),orderB md ops post tail pre listed = true → (pre ≠ [] → Np post listed) → (Np post listed → C w) → listed.size = ops.size → Run P ops Q C ls post pre tail a w → wpAnyC P md ops Q C post (pre.length + tail.length) listed a w
 | i :: pre,tail,listed,a,w,hB,hNp,hC,hsz,h => by
  unfold orderB at hB
  simp only [Bool.and_eq_true,Bool.not_eq_true'] at hB
  obtain ⟨hr,hf,hp,hB⟩ := hB
  have hip : i ∉ post := fun hm => by rw [List.contains_iff_mem.2 hm] at hp; cases hp
  unfold Run at h
  obtain ⟨oi,v,hi,hy,h⟩ := h
  have hn := hNp (List.cons_ne_nil _ _)
  have H := wpAnyC_of_run hs hQ he pre tail (listed.setIfInBounds i true) (a.put oi.dst v) w hB (fun _ => (Np.set hip).2 hn) (fun h => hC ((Np.set hip).1 h)) (by rw [Array.size_setIfInBounds]; exact hsz) h
  rw [show (i :: pre).length + tail.length = (pre.length + tail.length) + 1 from by simp; omega]
  cases hl : ls.contains i with
  | true =>
   rw [hl,if_pos rfl] at hy
   refine wpAnyC_first hi (Region.noSelect_spec hs) (fun c a w => hQ c a _ _ w) hip (Np post) (fun listed w h1 h2 => h2 h1) (fun listed j oj h1 hj hno => ?_) _ listed a w hn (Region.free_spec hi hf) (by simpa using hr) hy hC H
   by_cases hjp : j ∈ post
   ·have := List.all_eq_true.1 he j hjp
    rw [hj] at this
    have := List.all_eq_true.1 this i (by simpa using hl)
    obtain ⟨e,h1,h2⟩ := Array.any_eq_true'.1 this
    simp only [Bool.and_eq_true,beq_iff_eq] at h2
    exact absurd h2.2 (hno e h1 h2.1)
   ·exact (Np.set hjp).2 h1
  | false =>
   rw [hl,if_neg (by simp)] at hy
   exact wpAnyC_first hi (Region.noSelect_spec hs) (fun c a w => hQ c a _ _ w) hip (fun _ => True) (fun _ _ _ _ => trivial) (fun _ _ _ _ _ _ => trivial) _ listed a w trivial (Region.free_spec hi hf) (by simpa using hr) hy hC H
 | [],j :: tail,listed,a,w,hB,hNp,hC,hsz,h => by
  unfold orderB tailB at hB
  simp only [Bool.and_eq_true,decide_eq_true_eq] at hB
  obtain ⟨hr,hB⟩ := hB
  rw [show ([] : List Nat).length + (j :: tail).length = (([] : List Nat).length + tail.length) + 1 from by simp]
  unfold Run at h
  refine ⟨fun h0 => (by rw [h0] at hr; cases hr),fun i hi => ?_⟩
  rw [hr] at hi
  have hij : i = j := by simpa using hi
  subst hij
  have hjl := (mem_ready (md := md) (ops := ops) (j := i) (listed := listed)).1 (by rw [hr]; simp)
  obtain ⟨_,oj,hoj,_⟩ := hjl
  have hlt : i < listed.size := by rw [hsz]; exact (Array.getElem?_eq_some_iff.1 hoj).1
  refine wpOp_mono (fun a' w' h3 => ?_) h
  have hc : Np post (listed.setIfInBounds i true) → C w' := fun hn => by
   refine h3.1 ?_
   cases hc : post.contains i with
   | false => rfl
   | true =>
    have := hn i (by simpa using hc)
    simp [hlt] at this
  exact ⟨hc,wpAnyC_of_run hs hQ he [] tail _ a' w' (by unfold orderB; exact hB) (fun h => absurd rfl h) hc (by rw [Array.size_setIfInBounds]; exact hsz) h3.2⟩
 | [],[],listed,a,w,hB,hNp,hC,hsz,h => by
  unfold orderB tailB at hB
  unfold Run at h
  exact ⟨by simpa using hB,h⟩
def regionB (ops : Array Oper) (ls pre tail post : List Nat) : Bool :=
 Region.noSelect ops && (edgesB .any ops ls post && (orderB .any ops post tail pre (Array.replicate ops.size false) && decide (pre.length + tail.length = ops.size)))
theorem np_new (post : List Nat) (n : Nat) : Np post (Array.replicate n false) := fun j _ => by
 rcases Nat.lt_or_ge j n with h | h
 ·simp [h]
 ·simp [h]
theorem wp_region_run {id : Nat} {a : Act} {w : World} (C : World → Prop) (ls pre tail post : List Nat) (hm : P.follows .mixedOrders = true) (hB : regionB ops ls pre tail post = true)
  (hQ : ∀ c a d v w,Q (.panic c) (Act.put a d v) w → Q (.panic c) a w) (hC : C w.drew) (h : Run P ops Q C ls post pre tail a w.drew) : (Code.region id ops true).wp P Q a w := by
 unfold regionB at hB
 simp only [Bool.and_eq_true,decide_eq_true_eq] at hB
 obtain ⟨hs,he,ho,hl⟩ := hB
 refine wp_region_any hm (wpAny_of_C (C := C) (post := post) _ _ _ _ ?_)
 have := wpAnyC_of_run (P := P) (Q := Q) (C := C) hs hQ he pre tail _ a w.drew ho (fun _ => np_new _ _) (fun _ => hC) (by simp) h
 rw [hl] at this
 exact this
def Qd (Q : Exit → Act → World → Prop) (B : List PanicEntry → List Deferred → World → Prop) : Exit → Act → World → Prop
 | .panic c,a,w => B c a.defers w
 | e,a,w => Q e a w
theorem wp_region_run_d {id : Nat} {a : Act} {w : World} (B : List PanicEntry → List Deferred → World → Prop) (C : World → Prop) (ls pre tail post : List Nat) (hm : P.follows .mixedOrders = true) (hB : regionB ops ls pre tail post = true)
  (hQ : ∀ c a w,B c a.defers w → Q (.panic c) a w) (hC : C w.drew) (h : Run P ops (Qd Q B) C ls post pre tail a w.drew) : (Code.region id ops true).wp P Q a w := by
 have h1 : (Code.region id ops true).wp P (Qd Q B) a w := wp_region_run C ls pre tail post hm hB (fun c a d v w h => by cases d <;> exact h) hC h
 refine Code.wp_mono (fun e a w h => ?_) h1
 cases e with
 | panic c => exact hQ c a w h
 | _ => exact h
theorem qd_bad {Q : Exit → Act → World → Prop} {B : List PanicEntry → List Deferred → World → Prop} {c : List PanicEntry} {t : Array Value} {ds : List Deferred} {w : World} (h : B c ds w) : Qd Q B (.panic c) ⟨t,ds⟩ w := h
variable {a : Act} {w : World} {ls pre tail : List Nat}
theorem run_take {i : Nat} {oi : Oper} {v : Value} (hi : ops[i]? = some oi) (hl : ls.contains i = false) (hw : Region.wanted oi (yielded ops a.tmps) = true) (hy : ∀ w,(execOp a.eval oi).run P w = .ok (.value v) w)
  (h : Run P ops Q C ls post pre tail (a.put oi.dst v) w) : Run P ops Q C ls post (i :: pre) tail a w := by
 unfold Run
 exact ⟨oi,v,hi,by rw [hl,if_neg (by simp)]; exact .inl ⟨hw,fun w _ => hy w⟩,h⟩
theorem run_load {i : Nat} {oi : Oper} {v : Value} (hi : ops[i]? = some oi) (hl : ls.contains i = true) (hw : Region.wanted oi (yielded ops a.tmps) = true) (hy : ∀ w,C w → (execOp a.eval oi).run P w = .ok (.value v) w)
  (h : Run P ops Q C ls post pre tail (a.put oi.dst v) w) : Run P ops Q C ls post (i :: pre) tail a w := by
 unfold Run
 exact ⟨oi,v,hi,by rw [hl,if_pos rfl]; exact .inl ⟨hw,hy⟩,h⟩
theorem run_op {j : Nat} {o : Oper} (ho : ops[j]? = some o) (hw : Region.wanted o (yielded ops a.tmps) = true)
  (h : ∀ K : Act → World → Prop,(∀ a w,(post.contains j = false → C w) ∧ Run P ops Q C ls post [] tail a w → K a w) → o.wp P a w K Q) : Run P ops Q C ls post [] (j :: tail) a w := by
 unfold Run wpOp
 simp only [ho,hw,if_true]
 exact .inl (h _ fun _ _ h => h)
theorem run_mid {j : Nat} {o : Oper} (ho : ops[j]? = some o) (hw : Region.wanted o (yielded ops a.tmps) = true)
  (h : ∀ K : Act → World → Prop,(∀ a w,C w → Run P ops Q C ls post [] tail a w → K a w) → o.wp P a w K Q) : Run P ops Q C ls post [] (j :: tail) a w :=
 run_op ho hw fun K hK => h K fun a w h1 h2 => hK a w ⟨fun _ => h1,h2⟩
theorem run_post {j : Nat} {o : Oper} (ho : ops[j]? = some o) (hp : post.contains j = true) (hw : Region.wanted o (yielded ops a.tmps) = true)
  (h : ∀ K : Act → World → Prop,(∀ a w,Run P ops Q C ls post [] tail a w → K a w) → o.wp P a w K Q) : Run P ops Q C ls post [] (j :: tail) a w :=
 run_op ho hw fun K hK => h K fun a w h2 => hK a w ⟨(fun h => by rw [hp] at h; cases h),h2⟩
theorem run_end (h : Q .normal a w) : Run P ops Q C ls post [] [] a w := by unfold Run; exact h
theorem run_end_d {B : List PanicEntry → List Deferred → World → Prop} (h : Q .normal a w) : Run P ops (Qd Q B) C ls post [] [] a w := by unfold Run; exact h
end
inductive Pl where
 | done
 | take (i : Nat) (n : Pl)
 | one (j : Nat) (n : Pl)
 | two (j : Nat) (nj : Pl) (k : Nat) (nk : Pl)
def Pl.len : Pl → Nat
 | .done => 0
 | .take _ n => n.len + 1
 | .one _ n => n.len + 1
 | .two _ nj _ nk => nj.len + nk.len + 1
def planB (md : Region.Mode) (ops : Array Oper) (ls post : List Nat) : Pl → Array Bool → Bool
 | .done,listed => (Region.ready md ops listed).isEmpty
 | .take i n,listed => (Region.ready md ops listed).contains i && (Region.free md ops listed i && (!post.contains i && ((!ls.contains i || post.all fun j => !listed.getD j false) && planB md ops ls post n (listed.setIfInBounds i true))))
 | .one j n,listed => decide (Region.ready md ops listed = [j]) && planB md ops ls post n (listed.setIfInBounds j true)
 | .two j nj k nk,listed => decide (Region.ready md ops listed = [j,k]) && (planB md ops ls post nj (listed.setIfInBounds j true) && planB md ops ls post nk (listed.setIfInBounds k true))
def RunT (P : Program) (ops : Array Oper) (Q : Exit → Act → World → Prop) (C : World → Prop) (ls post : List Nat) : Pl → Act → World → Prop
 | .done,a,w => Q .normal a w
 | .take i n,a,w => ∃ oi v,ops[i]? = some oi ∧ YieldsIf P ops (if ls.contains i then C else fun _ => True) oi v a ∧ RunT P ops Q C ls post n (a.put oi.dst v) w
 | .one j n,a,w => wpOp P ops Q j (fun a' w' => (post.contains j = false → C w') ∧ RunT P ops Q C ls post n a' w') a w
 | .two j nj k nk,a,w => wpOp P ops Q j (fun a' w' => (post.contains j = false → C w') ∧ RunT P ops Q C ls post nj a' w') a w ∧ wpOp P ops Q k (fun a' w' => (post.contains k = false → C w') ∧ RunT P ops Q C ls post nk a' w') a w
section
variable {P : Program} {ops : Array Oper} {Q : Exit → Act → World → Prop} {md : Region.Mode} {C : World → Prop} {post ls : List Nat}
theorem wpAnyC_done {fuel : Nat} {listed : Array Bool} {a : Act} {w : World} (hr : Region.ready md ops listed = []) (h : Q .normal a w) : wpAnyC P md ops Q C post fuel listed a w := by
 cases fuel with
 | zero => exact ⟨hr,h⟩
 | succ n => exact ⟨fun _ => h,fun i hi => by rw [hr] at hi; cases hi⟩
theorem stepC {i : Nat} {a : Act} {w : World} {listed : Array Bool} {K : Act → World → Prop} (hsz : listed.size = ops.size) (hi : i ∈ Region.ready md ops listed) (h : wpOp P ops Q i (fun a' w' => (post.contains i = false → C w') ∧ K a' w') a w) :
  wpOp P ops Q i (fun a' w' => (Np post (listed.setIfInBounds i true) → C w') ∧ K a' w') a w := by
 obtain ⟨_,oj,hoj,_⟩ := mem_ready.1 hi
 have hlt : i < listed.size := by rw [hsz]; exact (Array.getElem?_eq_some_iff.1 hoj).1
 refine wpOp_mono (fun a' w' h3 => ⟨fun hn => h3.1 ?_,h3.2⟩) h
 cases hc : post.contains i with
 | false => rfl
 | true =>
  have := hn i (by simpa using hc)
  simp [hlt] at this
theorem wpAnyC_of_runT (hs : Region.noSelect ops = true) (hQ : ∀ c a d v w,Q (.panic c) (Act.put a d v) w → Q (.panic c) a w) (he : edgesB md ops ls post = true) :
  ∀ (pl : Pl) (fuel : Nat) (listed : Array Bool) (a : Act) (w : World),pl.len ≤ fuel → planB md ops ls post pl listed = true → (Np post listed → C w) → listed.size = ops.size → RunT P ops Q C ls post pl a w → wpAnyC P md ops Q C post fuel listed a w
 | .done,fuel,listed,a,w,_,hB,_,_,h => by
  unfold planB at hB
  unfold RunT at h
  exact wpAnyC_done (by simpa using hB) h
 | .take i n,fuel,listed,a,w,hf,hB,hC,hsz,h => by
  unfold planB at hB
  simp only [Bool.and_eq_true,Bool.not_eq_true'] at hB
  obtain ⟨hr,hfr,hp,hnp,hB⟩ := hB
  have hip : i ∉ post := fun hm => by rw [List.contains_iff_mem.2 hm] at hp; cases hp
  unfold RunT at h
  obtain ⟨oi,v,hi,hy,h⟩ := h
  cases fuel with
  | zero => unfold Pl.len at hf; omega
  | succ fuel =>
   have H := wpAnyC_of_runT hs hQ he n fuel (listed.setIfInBounds i true) (a.put oi.dst v) w (by unfold Pl.len at hf; omega) hB (fun h => hC ((Np.set hip).1 h)) (by rw [Array.size_setIfInBounds]; exact hsz) h
   cases hl : ls.contains i with
   | true =>
    rw [hl,if_pos rfl] at hy
    rw [hl] at hnp
    have hn : Np post listed := fun j hj => by
     rw [Bool.not_true,Bool.false_or] at hnp
     have := List.all_eq_true.1 hnp j hj
     rw [Bool.not_eq_true'] at this
     exact this
    refine wpAnyC_first hi (Region.noSelect_spec hs) (fun c a w => hQ c a _ _ w) hip (Np post) (fun listed w h1 h2 => h2 h1) (fun listed j oj h1 hj hno => ?_) _ listed a w hn (Region.free_spec hi hfr) (by simpa using hr) hy hC H
    by_cases hjp : j ∈ post
    ·have := List.all_eq_true.1 he j hjp
     rw [hj] at this
     have := List.all_eq_true.1 this i (by simpa using hl)
     obtain ⟨e,h1,h2⟩ := Array.any_eq_true'.1 this
     simp only [Bool.and_eq_true,beq_iff_eq] at h2
     exact absurd h2.2 (hno e h1 h2.1)
    ·exact (Np.set hjp).2 h1
   | false =>
    rw [hl,if_neg (by simp)] at hy
    exact wpAnyC_first hi (Region.noSelect_spec hs) (fun c a w => hQ c a _ _ w) hip (fun _ => True) (fun _ _ _ _ => trivial) (fun _ _ _ _ _ _ => trivial) _ listed a w trivial (Region.free_spec hi hfr) (by simpa using hr) hy hC H
 | .one j n,fuel,listed,a,w,hf,hB,hC,hsz,h => by
  unfold planB at hB
  simp only [Bool.and_eq_true,decide_eq_true_eq] at hB
  obtain ⟨hr,hB⟩ := hB
  unfold RunT at h
  cases fuel with
  | zero => unfold Pl.len at hf; omega
  | succ fuel =>
   refine ⟨fun h0 => (by rw [h0] at hr; cases hr),fun i hi => ?_⟩
   have hij : i = j := by rw [hr] at hi; simpa using hi
   subst hij
   refine wpOp_mono (fun a' w' h3 => ⟨h3.1,?_⟩) (stepC hsz hi h)
   exact wpAnyC_of_runT hs hQ he n fuel _ a' w' (by unfold Pl.len at hf; omega) hB h3.1 (by rw [Array.size_setIfInBounds]; exact hsz) h3.2
 | .two j nj k nk,fuel,listed,a,w,hf,hB,hC,hsz,h => by
  unfold planB at hB
  simp only [Bool.and_eq_true,decide_eq_true_eq] at hB
  obtain ⟨hr,hB1,hB2⟩ := hB
  unfold RunT at h
  cases fuel with
  | zero => unfold Pl.len at hf; omega
  | succ fuel =>
   refine ⟨fun h0 => (by rw [h0] at hr; cases hr),fun i hi => ?_⟩
   have hij : i = j ∨ i = k := by rw [hr] at hi; simpa using hi
   rcases hij with rfl | rfl
   ·refine wpOp_mono (fun a' w' h3 => ⟨h3.1,?_⟩) (stepC hsz hi h.1)
    exact wpAnyC_of_runT hs hQ he nj fuel _ a' w' (by unfold Pl.len at hf; omega) hB1 h3.1 (by rw [Array.size_setIfInBounds]; exact hsz) h3.2
   ·refine wpOp_mono (fun a' w' h3 => ⟨h3.1,?_⟩) (stepC hsz hi h.2)
    exact wpAnyC_of_runT hs hQ he nk fuel _ a' w' (by unfold Pl.len at hf; omega) hB2 h3.1 (by rw [Array.size_setIfInBounds]; exact hsz) h3.2
theorem wpAny_more : ∀ (f g : Nat) (listed : Array Bool) (a : Act) (w : World),(listed.toList.filter (!·)).length ≤ g → wpAny P md ops Q f listed a w → listed.size = ops.size → wpAny P md ops Q g listed a w
 | 0,g,listed,a,w,_,h,_ => wpAny_done h.1 h.2 g
 | f + 1,0,listed,a,w,hg,h,hsz => by
  refine ⟨?_,?_⟩
  ·refine List.eq_nil_iff_forall_not_mem.2 fun i hi => ?_
   have h0 := (mem_ready.1 hi).1
   have hlt : i < listed.size := by
    rcases Nat.lt_or_ge i listed.size with h' | h'
    ·exact h'
    ·simp [Array.getElem?_eq_none h'] at h0
   have hm : listed[i] ∈ listed.toList.filter (!·) := by
    refine List.mem_filter.2 ⟨by simp,?_⟩
    simp [hlt] at h0
    simp [h0]
   rw [List.length_eq_zero_iff.1 (Nat.le_zero.1 hg)] at hm
   cases hm
  ·refine h.1 ?_
   refine List.eq_nil_iff_forall_not_mem.2 fun i hi => ?_
   have h0 := (mem_ready.1 hi).1
   have hlt : i < listed.size := by
    rcases Nat.lt_or_ge i listed.size with h' | h'
    ·exact h'
    ·simp [Array.getElem?_eq_none h'] at h0
   have hm : listed[i] ∈ listed.toList.filter (!·) := by
    refine List.mem_filter.2 ⟨by simp,?_⟩
    simp [hlt] at h0
    simp [h0]
   rw [List.length_eq_zero_iff.1 (Nat.le_zero.1 hg)] at hm
   cases hm
 | f + 1,g + 1,listed,a,w,hg,h,hsz => by
  refine ⟨h.1,fun i hi => wpOp_mono (fun a' w' h' => ?_) (h.2 i hi)⟩
  have h0 := (mem_ready.1 hi).1
  have hlt : i < listed.size := by
   rcases Nat.lt_or_ge i listed.size with h' | h'
   ·exact h'
   ·simp [Array.getElem?_eq_none h'] at h0
  refine wpAny_more f g _ a' w' ?_ h' (by rw [Array.size_setIfInBounds]; exact hsz)
  have hcount : ∀ (l : List Bool) (i : Nat) (hi : i < l.length),l[i] = false → ((l.set i true).filter (!·)).length + 1 = (l.filter (!·)).length := by
   intro l
   induction l with
   | nil => intro i hi; exact absurd hi (Nat.not_lt_zero _)
   | cons b l ih =>
    intro i hi hb
    cases i with
    | zero => simp at hb; subst hb; simp
    | succ i =>
     have := ih i (by simpa using hi) (by simpa using hb)
     cases b <;> simp <;> omega
  have := hcount listed.toList i (by simpa using hlt) (by simp [hlt] at h0; simpa using h0)
  rw [Array.toList_setIfInBounds]
  omega
def treeB (ops : Array Oper) (ls post : List Nat) (pl : Pl) : Bool :=
 Region.noSelect ops && (edgesB .any ops ls post && planB .any ops ls post pl (Array.replicate ops.size false))
theorem wp_region_tree {id : Nat} {a : Act} {w : World} (C : World → Prop) (ls post : List Nat) (pl : Pl) (hm : P.follows .mixedOrders = true) (hB : treeB ops ls post pl = true)
  (hQ : ∀ c a d v w,Q (.panic c) (Act.put a d v) w → Q (.panic c) a w) (hC : C w.drew) (h : RunT P ops Q C ls post pl a w.drew) : (Code.region id ops true).wp P Q a w := by
 unfold treeB at hB
 simp only [Bool.and_eq_true] at hB
 obtain ⟨hs,he,ho⟩ := hB
 refine wp_region_any hm ?_
 have h1 := wpAny_of_C _ _ _ _ (wpAnyC_of_runT (P := P) (Q := Q) (C := C) hs hQ he pl pl.len (Array.replicate ops.size false) a w.drew (Nat.le_refl _) ho (fun _ => hC) (by simp) h)
 refine wpAny_more _ _ _ _ _ ?_ h1 (by simp)
 exact Nat.le_trans (List.length_filter_le _ _) (by simp)
theorem wp_region_tree_d {id : Nat} {a : Act} {w : World} (B : List PanicEntry → List Deferred → World → Prop) (C : World → Prop) (ls post : List Nat) (pl : Pl) (hm : P.follows .mixedOrders = true) (hB : treeB ops ls post pl = true)
  (hQ : ∀ c a w,B c a.defers w → Q (.panic c) a w) (hC : C w.drew) (h : RunT P ops (Qd Q B) C ls post pl a w.drew) : (Code.region id ops true).wp P Q a w := by
 have h1 : (Code.region id ops true).wp P (Qd Q B) a w := wp_region_tree C ls post pl hm hB (fun c a d v w h => by cases d <;> exact h) hC h
 refine Code.wp_mono (fun e a w h => ?_) h1
 cases e with
 | panic c => exact hQ c a w h
 | _ => exact h
variable {a : Act} {w : World}
theorem treeT_take {i : Nat} {oi : Oper} {v : Value} {n : Pl} (hi : ops[i]? = some oi) (hl : ls.contains i = false) (hw : Region.wanted oi (yielded ops a.tmps) = true) (hy : ∀ w,(execOp a.eval oi).run P w = .ok (.value v) w)
  (h : RunT P ops Q C ls post n (a.put oi.dst v) w) : RunT P ops Q C ls post (.take i n) a w := by
 unfold RunT
 exact ⟨oi,v,hi,by rw [hl,if_neg (by simp)]; exact .inl ⟨hw,fun w _ => hy w⟩,h⟩
theorem treeT_load {i : Nat} {oi : Oper} {v : Value} {n : Pl} (hi : ops[i]? = some oi) (hl : ls.contains i = true) (hw : Region.wanted oi (yielded ops a.tmps) = true) (hy : ∀ w,C w → (execOp a.eval oi).run P w = .ok (.value v) w)
  (h : RunT P ops Q C ls post n (a.put oi.dst v) w) : RunT P ops Q C ls post (.take i n) a w := by
 unfold RunT
 exact ⟨oi,v,hi,by rw [hl,if_pos rfl]; exact .inl ⟨hw,hy⟩,h⟩
theorem treeT_mid {j : Nat} {o : Oper} {n : Pl} (ho : ops[j]? = some o) (hw : Region.wanted o (yielded ops a.tmps) = true)
  (h : ∀ K : Act → World → Prop,(∀ a w,C w → RunT P ops Q C ls post n a w → K a w) → o.wp P a w K Q) : RunT P ops Q C ls post (.one j n) a w := by
 unfold RunT wpOp
 simp only [ho,hw,if_true]
 exact .inl (h _ fun _ _ h1 h2 => ⟨fun _ => h1,h2⟩)
theorem tree_two {j k : Nat} {nj nk : Pl} (h1 : RunT P ops Q C ls post (.one j nj) a w) (h2 : RunT P ops Q C ls post (.one k nk) a w) : RunT P ops Q C ls post (.two j nj k nk) a w := by
 unfold RunT at h1 h2 ⊢
 exact ⟨h1,h2⟩
theorem tree_end (h : Q .normal a w) : RunT P ops Q C ls post .done a w := by unfold RunT; exact h
theorem tree_end_d {B : List PanicEntry → List Deferred → World → Prop} (h : Q .normal a w) : RunT P ops (Qd Q B) C ls post .done a w := by unfold RunT; exact h
end
abbrev TakeF (ops : Array Oper) (o : Oper) (i : Nat) : Prop := ∀ {P : Program} {Q : Exit → Act → World → Prop} {C : World → Prop} {post ls : List Nat} {a : Act} {w : World} {v : Value} {pre tail : List Nat},ls.contains i = false → Region.wanted o (yielded ops a.tmps) = true → (∀ w,(execOp a.eval o).run P w = .ok (.value v) w) → Run P ops Q C ls post pre tail (a.put o.dst v) w → Run P ops Q C ls post (i :: pre) tail a w
abbrev LoadF (ops : Array Oper) (o : Oper) (i : Nat) : Prop := ∀ {P : Program} {Q : Exit → Act → World → Prop} {C : World → Prop} {post ls : List Nat} {a : Act} {w : World} {v : Value} {pre tail : List Nat},ls.contains i = true → Region.wanted o (yielded ops a.tmps) = true → (∀ w,C w → (execOp a.eval o).run P w = .ok (.value v) w) → Run P ops Q C ls post pre tail (a.put o.dst v) w → Run P ops Q C ls post (i :: pre) tail a w
abbrev MidF (ops : Array Oper) (o : Oper) (i : Nat) : Prop := ∀ {P : Program} {Q : Exit → Act → World → Prop} {C : World → Prop} {post ls : List Nat} {a : Act} {w : World} {tail : List Nat},Region.wanted o (yielded ops a.tmps) = true → (∀ K : Act → World → Prop,(∀ a w,C w → Run P ops Q C ls post [] tail a w → K a w) → o.wp P a w K Q) → Run P ops Q C ls post [] (i :: tail) a w
abbrev PostF (ops : Array Oper) (o : Oper) (i : Nat) : Prop := ∀ {P : Program} {Q : Exit → Act → World → Prop} {C : World → Prop} {post ls : List Nat} {a : Act} {w : World} {tail : List Nat},post.contains i = true → Region.wanted o (yielded ops a.tmps) = true → (∀ K : Act → World → Prop,(∀ a w,Run P ops Q C ls post [] tail a w → K a w) → o.wp P a w K Q) → Run P ops Q C ls post [] (i :: tail) a w
abbrev TkF (ops : Array Oper) (o : Oper) (i : Nat) : Prop := ∀ {P : Program} {Q : Exit → Act → World → Prop} {C : World → Prop} {post ls : List Nat} {a : Act} {w : World} {v : Value} {n : Pl},ls.contains i = false → Region.wanted o (yielded ops a.tmps) = true → (∀ w,(execOp a.eval o).run P w = .ok (.value v) w) → RunT P ops Q C ls post n (a.put o.dst v) w → RunT P ops Q C ls post (.take i n) a w
abbrev LdF (ops : Array Oper) (o : Oper) (i : Nat) : Prop := ∀ {P : Program} {Q : Exit → Act → World → Prop} {C : World → Prop} {post ls : List Nat} {a : Act} {w : World} {v : Value} {n : Pl},ls.contains i = true → Region.wanted o (yielded ops a.tmps) = true → (∀ w,C w → (execOp a.eval o).run P w = .ok (.value v) w) → RunT P ops Q C ls post n (a.put o.dst v) w → RunT P ops Q C ls post (.take i n) a w
abbrev MdF (ops : Array Oper) (o : Oper) (i : Nat) : Prop := ∀ {P : Program} {Q : Exit → Act → World → Prop} {C : World → Prop} {post ls : List Nat} {a : Act} {w : World} {n : Pl},Region.wanted o (yielded ops a.tmps) = true → (∀ K : Act → World → Prop,(∀ a w,C w → RunT P ops Q C ls post n a w → K a w) → o.wp P a w K Q) → RunT P ops Q C ls post (.one i n) a w
section
variable {o0 o1 o2 o3 o4 o5 o6 o7 o8 o9 o10 o11 o12 o13 o14 o15 : Oper} {r : List Oper}
theorem take0 : TakeF (o0 :: r).toArray o0 0 := run_take rfl
theorem load0 : LoadF (o0 :: r).toArray o0 0 := run_load rfl
theorem mid0 : MidF (o0 :: r).toArray o0 0 := run_mid rfl
theorem take1 : TakeF (o0 :: o1 :: r).toArray o1 1 := run_take rfl
theorem load1 : LoadF (o0 :: o1 :: r).toArray o1 1 := run_load rfl
theorem take2 : TakeF (o0 :: o1 :: o2 :: r).toArray o2 2 := run_take rfl
theorem load2 : LoadF (o0 :: o1 :: o2 :: r).toArray o2 2 := run_load rfl
theorem mid2 : MidF (o0 :: o1 :: o2 :: r).toArray o2 2 := run_mid rfl
theorem take3 : TakeF (o0 :: o1 :: o2 :: o3 :: r).toArray o3 3 := run_take rfl
theorem load3 : LoadF (o0 :: o1 :: o2 :: o3 :: r).toArray o3 3 := run_load rfl
theorem mid3 : MidF (o0 :: o1 :: o2 :: o3 :: r).toArray o3 3 := run_mid rfl
theorem take4 : TakeF (o0 :: o1 :: o2 :: o3 :: o4 :: r).toArray o4 4 := run_take rfl
theorem load4 : LoadF (o0 :: o1 :: o2 :: o3 :: o4 :: r).toArray o4 4 := run_load rfl
theorem mid4 : MidF (o0 :: o1 :: o2 :: o3 :: o4 :: r).toArray o4 4 := run_mid rfl
theorem take5 : TakeF (o0 :: o1 :: o2 :: o3 :: o4 :: o5 :: r).toArray o5 5 := run_take rfl
theorem mid5 : MidF (o0 :: o1 :: o2 :: o3 :: o4 :: o5 :: r).toArray o5 5 := run_mid rfl
theorem post5 : PostF (o0 :: o1 :: o2 :: o3 :: o4 :: o5 :: r).toArray o5 5 := run_post rfl
theorem load6 : LoadF (o0 :: o1 :: o2 :: o3 :: o4 :: o5 :: o6 :: r).toArray o6 6 := run_load rfl
theorem mid6 : MidF (o0 :: o1 :: o2 :: o3 :: o4 :: o5 :: o6 :: r).toArray o6 6 := run_mid rfl
theorem post6 : PostF (o0 :: o1 :: o2 :: o3 :: o4 :: o5 :: o6 :: r).toArray o6 6 := run_post rfl
theorem take7 : TakeF (o0 :: o1 :: o2 :: o3 :: o4 :: o5 :: o6 :: o7 :: r).toArray o7 7 := run_take rfl
theorem mid7 : MidF (o0 :: o1 :: o2 :: o3 :: o4 :: o5 :: o6 :: o7 :: r).toArray o7 7 := run_mid rfl
theorem post7 : PostF (o0 :: o1 :: o2 :: o3 :: o4 :: o5 :: o6 :: o7 :: r).toArray o7 7 := run_post rfl
theorem take8 : TakeF (o0 :: o1 :: o2 :: o3 :: o4 :: o5 :: o6 :: o7 :: o8 :: r).toArray o8 8 := run_take rfl
theorem mid8 : MidF (o0 :: o1 :: o2 :: o3 :: o4 :: o5 :: o6 :: o7 :: o8 :: r).toArray o8 8 := run_mid rfl
theorem post8 : PostF (o0 :: o1 :: o2 :: o3 :: o4 :: o5 :: o6 :: o7 :: o8 :: r).toArray o8 8 := run_post rfl
theorem load9 : LoadF (o0 :: o1 :: o2 :: o3 :: o4 :: o5 :: o6 :: o7 :: o8 :: o9 :: r).toArray o9 9 := run_load rfl
theorem mid9 : MidF (o0 :: o1 :: o2 :: o3 :: o4 :: o5 :: o6 :: o7 :: o8 :: o9 :: r).toArray o9 9 := run_mid rfl
theorem post9 : PostF (o0 :: o1 :: o2 :: o3 :: o4 :: o5 :: o6 :: o7 :: o8 :: o9 :: r).toArray o9 9 := run_post rfl
theorem mid10 : MidF (o0 :: o1 :: o2 :: o3 :: o4 :: o5 :: o6 :: o7 :: o8 :: o9 :: o10 :: r).toArray o10 10 := run_mid rfl
theorem mid11 : MidF (o0 :: o1 :: o2 :: o3 :: o4 :: o5 :: o6 :: o7 :: o8 :: o9 :: o10 :: o11 :: r).toArray o11 11 := run_mid rfl
theorem mid12 : MidF (o0 :: o1 :: o2 :: o3 :: o4 :: o5 :: o6 :: o7 :: o8 :: o9 :: o10 :: o11 :: o12 :: r).toArray o12 12 := run_mid rfl
theorem mid13 : MidF (o0 :: o1 :: o2 :: o3 :: o4 :: o5 :: o6 :: o7 :: o8 :: o9 :: o10 :: o11 :: o12 :: o13 :: r).toArray o13 13 := run_mid rfl
theorem mid14 : MidF (o0 :: o1 :: o2 :: o3 :: o4 :: o5 :: o6 :: o7 :: o8 :: o9 :: o10 :: o11 :: o12 :: o13 :: o14 :: r).toArray o14 14 := run_mid rfl
theorem mid15 : MidF (o0 :: o1 :: o2 :: o3 :: o4 :: o5 :: o6 :: o7 :: o8 :: o9 :: o10 :: o11 :: o12 :: o13 :: o14 :: o15 :: r).toArray o15 15 := run_mid rfl
theorem tk0 : TkF (o0 :: r).toArray o0 0 := treeT_take rfl
theorem ld0 : LdF (o0 :: r).toArray o0 0 := treeT_load rfl
theorem tk1 : TkF (o0 :: o1 :: r).toArray o1 1 := treeT_take rfl
theorem ld1 : LdF (o0 :: o1 :: r).toArray o1 1 := treeT_load rfl
theorem md1 : MdF (o0 :: o1 :: r).toArray o1 1 := treeT_mid rfl
theorem tk2 : TkF (o0 :: o1 :: o2 :: r).toArray o2 2 := treeT_take rfl
theorem ld2 : LdF (o0 :: o1 :: o2 :: r).toArray o2 2 := treeT_load rfl
theorem md2 : MdF (o0 :: o1 :: o2 :: r).toArray o2 2 := treeT_mid rfl
theorem tk3 : TkF (o0 :: o1 :: o2 :: o3 :: r).toArray o3 3 := treeT_take rfl
theorem md3 : MdF (o0 :: o1 :: o2 :: o3 :: r).toArray o3 3 := treeT_mid rfl
theorem tk4 : TkF (o0 :: o1 :: o2 :: o3 :: o4 :: r).toArray o4 4 := treeT_take rfl
theorem ld4 : LdF (o0 :: o1 :: o2 :: o3 :: o4 :: r).toArray o4 4 := treeT_load rfl
theorem md4 : MdF (o0 :: o1 :: o2 :: o3 :: o4 :: r).toArray o4 4 := treeT_mid rfl
theorem tk5 : TkF (o0 :: o1 :: o2 :: o3 :: o4 :: o5 :: r).toArray o5 5 := treeT_take rfl
theorem ld5 : LdF (o0 :: o1 :: o2 :: o3 :: o4 :: o5 :: r).toArray o5 5 := treeT_load rfl
theorem md5 : MdF (o0 :: o1 :: o2 :: o3 :: o4 :: o5 :: r).toArray o5 5 := treeT_mid rfl
theorem tk6 : TkF (o0 :: o1 :: o2 :: o3 :: o4 :: o5 :: o6 :: r).toArray o6 6 := treeT_take rfl
theorem ld6 : LdF (o0 :: o1 :: o2 :: o3 :: o4 :: o5 :: o6 :: r).toArray o6 6 := treeT_load rfl
theorem md6 : MdF (o0 :: o1 :: o2 :: o3 :: o4 :: o5 :: o6 :: r).toArray o6 6 := treeT_mid rfl
theorem tk7 : TkF (o0 :: o1 :: o2 :: o3 :: o4 :: o5 :: o6 :: o7 :: r).toArray o7 7 := treeT_take rfl
theorem ld7 : LdF (o0 :: o1 :: o2 :: o3 :: o4 :: o5 :: o6 :: o7 :: r).toArray o7 7 := treeT_load rfl
theorem md7 : MdF (o0 :: o1 :: o2 :: o3 :: o4 :: o5 :: o6 :: o7 :: r).toArray o7 7 := treeT_mid rfl
theorem tk8 : TkF (o0 :: o1 :: o2 :: o3 :: o4 :: o5 :: o6 :: o7 :: o8 :: r).toArray o8 8 := treeT_take rfl
theorem ld8 : LdF (o0 :: o1 :: o2 :: o3 :: o4 :: o5 :: o6 :: o7 :: o8 :: r).toArray o8 8 := treeT_load rfl
theorem md8 : MdF (o0 :: o1 :: o2 :: o3 :: o4 :: o5 :: o6 :: o7 :: o8 :: r).toArray o8 8 := treeT_mid rfl
theorem tk9 : TkF (o0 :: o1 :: o2 :: o3 :: o4 :: o5 :: o6 :: o7 :: o8 :: o9 :: r).toArray o9 9 := treeT_take rfl
theorem ld9 : LdF (o0 :: o1 :: o2 :: o3 :: o4 :: o5 :: o6 :: o7 :: o8 :: o9 :: r).toArray o9 9 := treeT_load rfl
theorem tk10 : TkF (o0 :: o1 :: o2 :: o3 :: o4 :: o5 :: o6 :: o7 :: o8 :: o9 :: o10 :: r).toArray o10 10 := treeT_take rfl
theorem tk11 : TkF (o0 :: o1 :: o2 :: o3 :: o4 :: o5 :: o6 :: o7 :: o8 :: o9 :: o10 :: o11 :: r).toArray o11 11 := treeT_take rfl
theorem tk12 : TkF (o0 :: o1 :: o2 :: o3 :: o4 :: o5 :: o6 :: o7 :: o8 :: o9 :: o10 :: o11 :: o12 :: r).toArray o12 12 := treeT_take rfl
end
end Go.Proofs.YtneohanphabneaaGreatDoor.Ch
namespace Go.Proofs.YtneohanphabneaaGreatDoor
open Go in
theorem putq : (∀ (a : Act) (o : Option Tmp) (v : Value),a.put o v = match o with | some d => ⟨a.tmps.setIfInBounds d v,a.defers⟩ | none => a) ∧ (∀ (xs : List Value) (i : Nat) (a : Value),xs.toArray.setIfInBounds i a = (xs.set i a).toArray) ∧ (∀ (x : Value) (xs : List Value) (a : Value),(x :: xs).set 0 a = a :: xs) ∧ ∀ (x : Value) (xs : List Value) (i : Nat) (a : Value),(x :: xs).set (i + 1) a = x :: xs.set i a := ⟨fun _ o _ => by cases o <;> rfl,fun _ _ _ => Ch.p1 _ _ _,fun _ _ _ => rfl,fun _ _ _ _ => rfl⟩
end Go.Proofs.YtneohanphabneaaGreatDoor
