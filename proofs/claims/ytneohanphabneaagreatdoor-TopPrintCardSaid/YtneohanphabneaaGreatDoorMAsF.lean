/-
  errors.As at the two targets of Tell, by Go's own text (after the kit's toy of errors.As at a concrete target): an error that is an Errno, or a Fault that holds one.
-/
import Derived.Test.YtneohanphabneaaGreatDoorMFn
import Derived.LaidEql
import Derived.Stop.Asserts
import Derived.RowKitTokens
import Derived.Deep.QuietTactic
import Derived.BigQuiet
import Derived.Lib.LaidU8
import Derived.Deep.Slices
namespace Go.Proofs.YtneohanphabneaaGreatDoor
open Go.RowKit Go.Extern.Stop Go.Stop Go.Extern
theorem vFP (t : Addr) (w : World) : (ReflectliteValue.unpack (.iface 79 (.pointer (some t)))).run Tryz.prog w
  = .ok (.agg #[.pointer (some ⟨11,79,none⟩),.pointer (some ⟨w.heap.size,0,none⟩),.int .u64 150]) (w.alloc (.cells #[.pointer (some t)] 79)) := by kernel_rfl
theorem tyFP (a : Addr) (w : World) : (ReflectliteValue.methodAny (ReflectliteValue.valueError "reflectlite.Value.Type" 0) (fun t _ _ _ => ReflectliteType.toType t) #[.agg #[.pointer (some ⟨11,79,none⟩),.pointer (some a),.int .u64 150]]).run Tryz.prog w
  = .ok (.iface 138 (.agg #[.pointer (some ⟨11,79,none⟩)])) w := by kernel_rfl
theorem kindFP (w : World) : ((ReflectliteType.abiMethod fun t => Functor.map (fun a : Nat => Value.int IntKind.u8 (a : Int)) (Rtype.kind t)) #[.pointer (some ⟨11,79,none⟩)]).run Tryz.prog w = .ok (.int .u8 22) w := by kernel_rfl
theorem kindF (w : World) : ((ReflectliteType.abiMethod fun t => Functor.map (fun a : Nat => Value.int IntKind.u8 (a : Int)) (Rtype.kind t)) #[.pointer (some ⟨11,58,none⟩)]).run Tryz.prog w = .ok (.int .u8 22) w := by kernel_rfl
theorem partsFP (a : Addr) (w : World) : (ReflectliteValue.parts (.agg #[.pointer (some ⟨11,79,none⟩),.pointer (some a),.int .u64 150])).run Tryz.prog w = .ok (some (79,a,150)) w := by kernel_rfl
theorem isNilF (a p : Addr) (W : World) (ha : W.cell? a = some (.pointer (some p))) :
  (ReflectliteValue.method (ReflectliteValue.valueError "reflectlite.Value.IsNil" 0) ReflectliteValue.isNil #[.agg #[.pointer (some ⟨11,79,none⟩),.pointer (some a),.int .u64 150]]).run Tryz.prog W = .ok (.bool false) W := by
 change Sem.run _ (Bind.bind (ReflectliteValue.parts (.agg _)) _) _ = _
 simp only [Sem.run_bind,partsFP,Result.andThen]
 simp [ReflectliteValue.isNil,loadVar,isAgg,underlying,Tryz.underlying79,ha,Result.andThen]
theorem elemFT (w : World) : (ReflectliteType.method ReflectliteType.elem #[.agg #[.pointer (some ⟨11,79,none⟩)]]).run Tryz.prog w = .ok (.iface 138 (.agg #[.pointer (some ⟨11,58,none⟩)])) w := by kernel_rfl
theorem implF (w : World) : (ReflectliteType.relation "Implements" ReflectliteType.implements_ #[.agg #[.pointer (some ⟨11,58,none⟩)],.iface 138 (.agg #[.pointer (some ⟨11,32,none⟩)])]).run Tryz.prog w = .ok (.bool true) w := by kernel_rfl
theorem vEP (t : Addr) (w : World) : (ReflectliteValue.unpack (.iface 82 (.pointer (some t)))).run Tryz.prog w
  = .ok (.agg #[.pointer (some ⟨11,82,none⟩),.pointer (some ⟨w.heap.size,0,none⟩),.int .u64 150]) (w.alloc (.cells #[.pointer (some t)] 82)) := by kernel_rfl
theorem vE (n : Int) (w : World) : (ReflectliteValue.unpack (.iface 26 (.int .i64 n))).run Tryz.prog w
  = .ok (.agg #[.pointer (some ⟨11,26,none⟩),.pointer (some ⟨w.heap.size,0,none⟩),.int .u64 130]) (w.alloc (.cells #[(.int .i64 n)] 26)) := by kernel_rfl
theorem tyEP (a : Addr) (w : World) : (ReflectliteValue.methodAny (ReflectliteValue.valueError "reflectlite.Value.Type" 0) (fun t _ _ _ => ReflectliteType.toType t) #[.agg #[.pointer (some ⟨11,82,none⟩),.pointer (some a),.int .u64 150]]).run Tryz.prog w
  = .ok (.iface 138 (.agg #[.pointer (some ⟨11,82,none⟩)])) w := by kernel_rfl
theorem kindEP (w : World) : ((ReflectliteType.abiMethod fun t => Functor.map (fun a : Nat => Value.int IntKind.u8 (a : Int)) (Rtype.kind t)) #[.pointer (some ⟨11,82,none⟩)]).run Tryz.prog w = .ok (.int .u8 22) w := by kernel_rfl
theorem kindE (w : World) : ((ReflectliteType.abiMethod fun t => Functor.map (fun a : Nat => Value.int IntKind.u8 (a : Int)) (Rtype.kind t)) #[.pointer (some ⟨11,26,none⟩)]).run Tryz.prog w = .ok (.int .u8 2) w := by kernel_rfl
theorem partsEP (a : Addr) (w : World) : (ReflectliteValue.parts (.agg #[.pointer (some ⟨11,82,none⟩),.pointer (some a),.int .u64 150])).run Tryz.prog w = .ok (some (82,a,150)) w := by kernel_rfl
theorem isNilE (a p : Addr) (W : World) (ha : W.cell? a = some (.pointer (some p))) :
  (ReflectliteValue.method (ReflectliteValue.valueError "reflectlite.Value.IsNil" 0) ReflectliteValue.isNil #[.agg #[.pointer (some ⟨11,82,none⟩),.pointer (some a),.int .u64 150]]).run Tryz.prog W = .ok (.bool false) W := by
 change Sem.run _ (Bind.bind (ReflectliteValue.parts (.agg _)) _) _ = _
 simp only [Sem.run_bind,partsEP,Result.andThen]
 simp [ReflectliteValue.isNil,loadVar,isAgg,underlying,Tryz.underlying82,ha,Result.andThen]
theorem elemET (w : World) : (ReflectliteType.method ReflectliteType.elem #[.agg #[.pointer (some ⟨11,82,none⟩)]]).run Tryz.prog w = .ok (.iface 138 (.agg #[.pointer (some ⟨11,26,none⟩)])) w := by kernel_rfl
theorem implE (w : World) : (ReflectliteType.relation "Implements" ReflectliteType.implements_ #[.agg #[.pointer (some ⟨11,26,none⟩)],.iface 138 (.agg #[.pointer (some ⟨11,32,none⟩)])]).run Tryz.prog w = .ok (.bool true) w := by kernel_rfl
theorem typeOfE (v : Value) (w : World) : (ReflectliteType.typeOf #[.iface 26 v]).run Tryz.prog w = .ok (.iface 138 (.agg #[.pointer (some ⟨11,26,none⟩)])) w := by kernel_rfl
theorem elemOfE (w : World) : (Rtype.elem? 82).run Tryz.prog w = .ok (some 26) w := by kernel_rfl
theorem mkE (p : Addr) (w : World) : (ReflectliteValue.mk 26 p ReflectliteValue.flagAddr).run Tryz.prog w = .ok (.agg #[.pointer (some ⟨11,26,none⟩),.pointer (some p),.int .u64 386]) w := by kernel_rfl
theorem elemVE (a p : Addr) (W : World) (ha : W.cell? a = some (.pointer (some p))) :
  (ReflectliteValue.method (ReflectliteValue.valueError "reflectlite.Value.Elem" 0) ReflectliteValue.elem #[.agg #[.pointer (some ⟨11,82,none⟩),.pointer (some a),.int .u64 150]]).run Tryz.prog W
   = .ok (.agg #[.pointer (some ⟨11,26,none⟩),.pointer (some p),.int .u64 386]) W := by
 change Sem.run _ (Bind.bind (ReflectliteValue.parts (.agg _)) _) _ = _
 simp only [Sem.run_bind,partsEP,Result.andThen]
 simp [ReflectliteValue.elem,loadVar,isAgg,underlying,Tryz.underlying82,ha,Result.andThen,elemOfE,mkE]
theorem partsEA (a : Addr) (w : World) : (ReflectliteValue.parts (.agg #[.pointer (some ⟨11,26,none⟩),.pointer (some a),.int .u64 386])).run Tryz.prog w = .ok (some (26,a,386)) w := by kernel_rfl
theorem partsE (a : Addr) (w : World) : (ReflectliteValue.parts (.agg #[.pointer (some ⟨11,26,none⟩),.pointer (some a),.int .u64 130])).run Tryz.prog w = .ok (some (26,a,130)) w := by kernel_rfl
theorem directE (w : World) : (Rtype.directlyAssignable 26 26).run Tryz.prog w = .ok true w := by kernel_rfl
theorem setE (ta b : Addr) (n : Int) (old : Value) (W : World) (hb : W.cell? b = some ((.int .i64 n))) (ht : W.cell? ta = some old) (hf : W.frozen? ta = false) :
  (ReflectliteValue.set #[.agg #[.pointer (some ⟨11,26,none⟩),.pointer (some ta),.int .u64 386],.agg #[.pointer (some ⟨11,26,none⟩),.pointer (some b),.int .u64 130]]).run Tryz.prog W
   = .ok (.tuple #[]) (W.setCell ta ((.int .i64 n))) := by
 change Sem.run _ (Bind.bind (ReflectliteValue.parts (.agg _)) _) _ = _
 simp only [Sem.run_bind,partsEA,Result.andThen,Array.getLit,List.getElem_toArray,List.getElem_cons_zero,List.getElem_cons_succ,partsE]
 simp [ReflectliteValue.flagAddr,loadVar,isAgg,underlying,Tryz.underlying26,hb,Result.andThen,directE,storeVar,Value.cells,storeCells,Addr.add]
 rw [run_store Tryz.prog W ta _ _ (by rfl)]
 simp [ht,hf]
theorem methodKind (h : Value) (w : World) : (Go.method 345 138 (.agg #[h]) "Kind").run Tryz.prog w = .ok (236,h) w := by kernel_rfl
theorem methodElem (h : Value) (w : World) : (Go.method 345 138 (.agg #[h]) "Elem").run Tryz.prog w = .ok (249,.agg #[h]) w := by kernel_rfl
theorem methodImplements (h : Value) (w : World) : (Go.method 345 138 (.agg #[h]) "Implements").run Tryz.prog w = .ok (250,.agg #[h]) w := by kernel_rfl
theorem methodAssignableTo (h : Value) (w : World) : (Go.method 345 138 (.agg #[h]) "AssignableTo").run Tryz.prog w = .ok (247,.agg #[h]) w := by kernel_rfl
theorem asgEF (w : World) : (ReflectliteType.relation "AssignableTo" ReflectliteType.assignableTo #[.agg #[.pointer (some ⟨11,26,none⟩)],.iface 138 (.agg #[.pointer (some ⟨11,58,none⟩)])]).run Tryz.prog w = .ok (.bool false) w := by kernel_rfl
theorem asgEE (w : World) : (ReflectliteType.relation "AssignableTo" ReflectliteType.assignableTo #[.agg #[.pointer (some ⟨11,26,none⟩)],.iface 138 (.agg #[.pointer (some ⟨11,26,none⟩)])]).run Tryz.prog w = .ok (.bool true) w := by kernel_rfl
theorem noAsE (v : Value) (xT : TypeId) (w : World) : (Instr.typeAssert (.iface 26 v) xT 143 true).run Tryz.prog w = .ok (.tuple #[.nilIface,.bool false]) w := run_typeAssert_lacksB Tryz.underlying143 (by kernel_rfl) (by kernel_rfl) v xT w
theorem noUnE (v : Value) (xT : TypeId) (w : World) : (Instr.typeAssert (.iface 26 v) xT 146 true).run Tryz.prog w = .ok (.tuple #[.nilIface,.bool false]) w := run_typeAssert_lacksB Tryz.underlying146 (by kernel_rfl) (by kernel_rfl) v xT w
theorem noUsE (v : Value) (xT : TypeId) (w : World) : (Instr.typeAssert (.iface 26 v) xT 148 true).run Tryz.prog w = .ok (.tuple #[.nilIface,.bool false]) w := run_typeAssert_lacksB Tryz.underlying148 (by kernel_rfl) (by kernel_rfl) v xT w
set_option maxRecDepth 100000
set_option maxHeartbeats 4000000
open Go.RowKit Go.Extern.Stop Go.Stop Go.Extern
theorem only_alloc {a w : World} {row : Option Nat} (h : a.grownBy w row) (o : Obj) : a.grownBy (w.alloc o) row :=
 ⟨h.os,h.tape,h.output,Nat.le_trans h.size (by simp),fun i hi hne => (Below.heap_alloc w o i (Nat.lt_of_lt_of_le hi h.size)).trans (h.block i hi hne)⟩
theorem only_setCell {a w : World} {g : Nat} (h : a.grownBy w (some g)) {p : Addr} (hp : p.block = g) (u : Value) : a.grownBy (w.setCell p u) (some g) :=
 ⟨h.os,h.tape,h.output,by simpa [World.setCell] using h.size,fun i hi hne => (Below.heap_setCell w p u i (by
  rintro rfl
  exact hne (by rw [hp]))).trans (h.block i hi hne)⟩
theorem set_cell {w : World} {a : Addr} {old : Value} (u : Value) (h : w.cell? a = some old) : (w.setCell a u).cell? a = some u := World.cell?_setCell_same _ _ _ h
theorem set_frozen (w : World) (a : Addr) (u : Value) : (w.setCell a u).frozen? a = w.frozen? a := by simp
theorem as_EE (n : Int) (t : Addr) (old : Value) (w : World) (hg : w.cell? ⟨0,0,none⟩ = some (.iface 138 (.agg #[.pointer (some ⟨11,32,none⟩)]))) (ht0 : w.cell? t = some old) (hf0 : w.frozen? t = false) :
  Calls Tryz.prog 32 #[.iface 26 (.int .i64 n),.iface 82 (.pointer (some t))] w fun ev w' => ev = .returned (.bool true) ∧ w.grownBy w' (some t.block) ∧ w'.cell? t = some (.int .i64 n) ∧ w'.frozen? t = false := by
 have h6 := @run_callFunc_extern Tryz.prog 95 _ (fun args => ReflectliteValue.unpack (args.getD 0 (.tuple #[]))) Tryz.func95 (by kernel_rfl) (by kernel_rfl) (by kernel_rfl) (by kernel_rfl)
 have h7 := @run_callFunc_extern Tryz.prog 96 _ (ReflectliteValue.methodAny (ReflectliteValue.valueError "reflectlite.Value.Type" 0) (fun t _ _ _ => ReflectliteType.toType t)) Tryz.func96 (by kernel_rfl) (by kernel_rfl) (by kernel_rfl) (by kernel_rfl)
 have h8 := @run_callFunc_extern Tryz.prog 97 _ (ReflectliteValue.method (ReflectliteValue.valueError "reflectlite.Value.IsNil" 0) ReflectliteValue.isNil) Tryz.func97 (by kernel_rfl) (by kernel_rfl) (by kernel_rfl) (by kernel_rfl)
 have h27 := @run_callFunc_extern Tryz.prog 236 _ (ReflectliteType.abiMethod fun t => do pure (.int .u8 (← Rtype.kind t))) Tryz.func236 (by kernel_rfl) (by kernel_rfl) (by kernel_rfl) (by kernel_rfl)
 have h37 := @run_callFunc_extern Tryz.prog 249 _ (ReflectliteType.method ReflectliteType.elem) Tryz.func249 (by kernel_rfl) (by kernel_rfl) (by kernel_rfl) (by kernel_rfl)
 have h38 := @run_callFunc_extern Tryz.prog 250 _ (ReflectliteType.relation "Implements" ReflectliteType.implements_) Tryz.func250 (by kernel_rfl) (by kernel_rfl) (by kernel_rfl) (by kernel_rfl)
 have h10 := @run_callFunc_extern Tryz.prog 144 _ ReflectliteType.typeOf Tryz.func144 (by kernel_rfl) (by kernel_rfl) (by kernel_rfl) (by kernel_rfl)
 have h35 := @run_callFunc_extern Tryz.prog 247 _ (ReflectliteType.relation "AssignableTo" ReflectliteType.assignableTo) Tryz.func247 (by kernel_rfl) (by kernel_rfl) (by kernel_rfl) (by kernel_rfl)
 have h11 := @run_callFunc_extern Tryz.prog 145 _ (ReflectliteValue.method (ReflectliteValue.valueError "reflectlite.Value.Elem" 0) ReflectliteValue.elem) Tryz.func145 (by kernel_rfl) (by kernel_rfl) (by kernel_rfl) (by kernel_rfl)
 have h12 := @run_callFunc_extern Tryz.prog 146 _ ReflectliteValue.set Tryz.func146 (by kernel_rfl) (by kernel_rfl) (by kernel_rfl) (by kernel_rfl)
 have mA := methodAssignableTo
 have mK := methodKind
 have mE := methodElem
 have mI := methodImplements
 have f6 := vEP
 have f7 := tyEP
 have k27 := kindEP
 have k25 := kindE
 have e27 := elemET
 have i25 := implE
 have n8 := isNilE ⟨w.heap.size,0,none⟩ t ((w.alloc (.cells #[.pointer (some t)] 82)).alloc (.cells #[.pointer (some ⟨11,82,none⟩),.pointer (some ⟨w.heap.size,0,none⟩),.int .u64 150] 111)) (by simp)
 have hlt : 0 < w.heap.size := by
  rcases Nat.lt_or_ge 0 w.heap.size with h | h
  ·exact h
  ·simp [World.cell?,Array.getElem?_eq_none h] at hg
 have hg2 : ((w.alloc (.cells #[.pointer (some t)] 82)).alloc (.cells #[.pointer (some ⟨11,82,none⟩),.pointer (some ⟨w.heap.size,0,none⟩),.int .u64 150] 111)).cell? ⟨0,0,none⟩ = some (.iface 138 (.agg #[.pointer (some ⟨11,32,none⟩)])) := by
  rw [World.cell?_alloc_lt _ _ ⟨0,0,none⟩ (by simp <;> omega),World.cell?_alloc_lt _ _ ⟨0,0,none⟩ hlt]; exact hg
 have htl : t.block < w.heap.size := by
  rcases Nat.lt_or_ge t.block w.heap.size with h | h
  ·exact h
  ·simp [World.cell?,Array.getElem?_eq_none h] at ht0
 have tOE := typeOfE
 have aEE := asgEE
 have v25 := vE
 have el := elemVE ⟨w.heap.size,0,none⟩ t (((w.alloc (.cells #[.pointer (some t)] 82)).alloc (.cells #[.pointer (some ⟨11,82,none⟩),.pointer (some ⟨w.heap.size,0,none⟩),.int .u64 150] 111)).alloc (.cells #[.pointer (some ⟨11,82,none⟩),.pointer (some ⟨w.heap.size,0,none⟩),.int .u64 150] 111)) (by rw [World.cell?_alloc_lt _ _ ⟨w.heap.size,0,none⟩ (by simp; omega)]; simp)
 have st := setE t ⟨w.heap.size + 1 + 1 + 1,0,none⟩ n old ((((w.alloc (.cells #[.pointer (some t)] 82)).alloc (.cells #[.pointer (some ⟨11,82,none⟩),.pointer (some ⟨w.heap.size,0,none⟩),.int .u64 150] 111)).alloc (.cells #[.pointer (some ⟨11,82,none⟩),.pointer (some ⟨w.heap.size,0,none⟩),.int .u64 150] 111)).alloc (.cells #[.int .i64 n] 26))
  (by rw [World.cell?_alloc_at _ _ _ _ (by simp)]; rfl)
  (by rw [World.cell?_alloc_lt _ _ t (by simp; omega),World.cell?_alloc_lt _ _ t (by simp; omega),World.cell?_alloc_lt _ _ t (by simp; omega),World.cell?_alloc_lt _ _ t htl]; exact ht0)
  (by rw [World.frozen?_alloc_old _ _ t (by simp; omega),World.frozen?_alloc_old _ _ t (by simp; omega),World.frozen?_alloc_old _ _ t (by simp; omega),World.frozen?_alloc_old _ _ t (Nat.ne_of_lt htl)]; exact hf0)
 go_enter Tryz.func32,Tryz.ntmps32
 go_wp2
 refine wp_loop_rounds 1 ?_
 rw [rounds_succ]
 go_wp2
 go_ret
 refine ⟨rfl,only_setCell (only_alloc (only_alloc (only_alloc (only_alloc (World.grownBy.refl _ _) _) _) _) _) rfl _,set_cell _ (old := old) ?_,?_⟩
 ·rw [World.cell?_alloc_lt _ _ t (by simp; omega),World.cell?_alloc_lt _ _ t (by simp; omega),World.cell?_alloc_lt _ _ t (by simp; omega),World.cell?_alloc_lt _ _ t htl]; exact ht0
 ·rw [set_frozen,World.frozen?_alloc_old _ _ t (by simp; omega),World.frozen?_alloc_old _ _ t (by simp; omega),World.frozen?_alloc_old _ _ t (by simp; omega),World.frozen?_alloc_old _ _ t (Nat.ne_of_lt htl)]; exact hf0
theorem as_EF (n : Int) (t : Addr) (old : Value) (w : World) (hg : w.cell? ⟨0,0,none⟩ = some (.iface 138 (.agg #[.pointer (some ⟨11,32,none⟩)]))) (ht0 : w.cell? t = some old) (_hf0 : w.frozen? t = false) :
  Calls Tryz.prog 32 #[.iface 26 (.int .i64 n),.iface 79 (.pointer (some t))] w fun ev w' => ev = .returned (.bool false) ∧ Below w.heap.size w w' := by
 have h6 := @run_callFunc_extern Tryz.prog 95 _ (fun args => ReflectliteValue.unpack (args.getD 0 (.tuple #[]))) Tryz.func95 (by kernel_rfl) (by kernel_rfl) (by kernel_rfl) (by kernel_rfl)
 have h7 := @run_callFunc_extern Tryz.prog 96 _ (ReflectliteValue.methodAny (ReflectliteValue.valueError "reflectlite.Value.Type" 0) (fun t _ _ _ => ReflectliteType.toType t)) Tryz.func96 (by kernel_rfl) (by kernel_rfl) (by kernel_rfl) (by kernel_rfl)
 have h8 := @run_callFunc_extern Tryz.prog 97 _ (ReflectliteValue.method (ReflectliteValue.valueError "reflectlite.Value.IsNil" 0) ReflectliteValue.isNil) Tryz.func97 (by kernel_rfl) (by kernel_rfl) (by kernel_rfl) (by kernel_rfl)
 have h27 := @run_callFunc_extern Tryz.prog 236 _ (ReflectliteType.abiMethod fun t => do pure (.int .u8 (← Rtype.kind t))) Tryz.func236 (by kernel_rfl) (by kernel_rfl) (by kernel_rfl) (by kernel_rfl)
 have h37 := @run_callFunc_extern Tryz.prog 249 _ (ReflectliteType.method ReflectliteType.elem) Tryz.func249 (by kernel_rfl) (by kernel_rfl) (by kernel_rfl) (by kernel_rfl)
 have h38 := @run_callFunc_extern Tryz.prog 250 _ (ReflectliteType.relation "Implements" ReflectliteType.implements_) Tryz.func250 (by kernel_rfl) (by kernel_rfl) (by kernel_rfl) (by kernel_rfl)
 have h10 := @run_callFunc_extern Tryz.prog 144 _ ReflectliteType.typeOf Tryz.func144 (by kernel_rfl) (by kernel_rfl) (by kernel_rfl) (by kernel_rfl)
 have h35 := @run_callFunc_extern Tryz.prog 247 _ (ReflectliteType.relation "AssignableTo" ReflectliteType.assignableTo) Tryz.func247 (by kernel_rfl) (by kernel_rfl) (by kernel_rfl) (by kernel_rfl)
 have h11 := @run_callFunc_extern Tryz.prog 145 _ (ReflectliteValue.method (ReflectliteValue.valueError "reflectlite.Value.Elem" 0) ReflectliteValue.elem) Tryz.func145 (by kernel_rfl) (by kernel_rfl) (by kernel_rfl) (by kernel_rfl)
 have h12 := @run_callFunc_extern Tryz.prog 146 _ ReflectliteValue.set Tryz.func146 (by kernel_rfl) (by kernel_rfl) (by kernel_rfl) (by kernel_rfl)
 have mA := methodAssignableTo
 have mK := methodKind
 have mE := methodElem
 have mI := methodImplements
 have f6 := vFP
 have f7 := tyFP
 have k27 := kindFP
 have k25 := kindF
 have e27 := elemFT
 have i25 := implF
 have n8 := isNilF ⟨w.heap.size,0,none⟩ t ((w.alloc (.cells #[.pointer (some t)] 79)).alloc (.cells #[.pointer (some ⟨11,79,none⟩),.pointer (some ⟨w.heap.size,0,none⟩),.int .u64 150] 111)) (by simp)
 have hlt : 0 < w.heap.size := by
  rcases Nat.lt_or_ge 0 w.heap.size with h | h
  ·exact h
  ·simp [World.cell?,Array.getElem?_eq_none h] at hg
 have hg2 : ((w.alloc (.cells #[.pointer (some t)] 79)).alloc (.cells #[.pointer (some ⟨11,79,none⟩),.pointer (some ⟨w.heap.size,0,none⟩),.int .u64 150] 111)).cell? ⟨0,0,none⟩ = some (.iface 138 (.agg #[.pointer (some ⟨11,32,none⟩)])) := by
  rw [World.cell?_alloc_lt _ _ ⟨0,0,none⟩ (by simp <;> omega),World.cell?_alloc_lt _ _ ⟨0,0,none⟩ hlt]; exact hg
 have htl : t.block < w.heap.size := by
  rcases Nat.lt_or_ge t.block w.heap.size with h | h
  ·exact h
  ·simp [World.cell?,Array.getElem?_eq_none h] at ht0
 have tOE := typeOfE
 have aEF := asgEF
 have n1 := noAsE
 have n2 := noUnE
 have n3 := noUsE
 go_enter Tryz.func32,Tryz.ntmps32
 go_wp2
 refine wp_loop_rounds 1 ?_
 rw [rounds_succ]
 go_wp2
 go_ret
 exact ⟨rfl,(((Below.refl _ _).alloc (Nat.le_refl _) _).alloc (by simp) _).alloc (by simp; omega) _⟩
set_option maxHeartbeats 1000000
open Go.RowKit
def ErrType (w : World) : Prop := w.cell? ⟨0,0,none⟩ = some (.iface 138 (.agg #[.pointer (some ⟨11,32,none⟩)]))
theorem ErrType.lt {w : World} (h : ErrType w) : 0 < w.heap.size := by
 unfold ErrType at h
 rcases Nat.lt_or_ge 0 w.heap.size with h' | h'
 ·exact h'
 ·simp [World.cell?,Array.getElem?_eq_none h'] at h
theorem ErrType.below {w w' : World} {B : Nat} (h : ErrType w) (hb : Below B w w') (hB : 0 < B) : ErrType w' := (hb.cell (p := ⟨0,0,none⟩) hB).trans h
theorem tell_errno (n : Int) (w : World) (hE : ErrType w) : Calls Tryz.prog 13 #[.iface 26 (.int .i64 n)] w fun e w' => e = .returned (.tuple #[.int .i64 n,.int .i64 (-1),.int .i64 (-1)]) ∧ Below w.heap.size w w' := by
 have hlt := hE.lt
 have HE : Hid (ErrType ((w.alloc (.cells #[.int .i64 0] 26)).alloc (.cells #[.pointer none] 58))) := hE.below (B := w.heap.size) (((Below.refl _ _).alloc (Nat.le_refl _) _).alloc (by simp) _) hlt
 clear hE
 go_enter Tryz.func13,Tryz.ntmps13
 go_wp2_with fail
 refine (as_EF n ⟨w.heap.size + 1,0,none⟩ (.pointer none) _ HE.out (by simp) (by simp)).mono ?_
 rintro e w3 ⟨rfl,hb3⟩
 have c3 : w3.cell? ⟨w.heap.size,0,none⟩ = some (.int .i64 0) := (hb3.cell (p := ⟨w.heap.size,0,none⟩) (by simp <;> omega)).trans (by rw [World.cell?_alloc_lt _ _ ⟨w.heap.size,0,none⟩ (by simp)]; simp)
 have f3 : w3.frozen? ⟨w.heap.size,0,none⟩ = false := (hb3.frozen (p := ⟨w.heap.size,0,none⟩) (by simp <;> omega)).trans (by rw [World.frozen?_alloc_old _ _ ⟨w.heap.size,0,none⟩ (by simp)]; simp)
 have HE3 : Hid (ErrType w3) := HE.out.below hb3 (by simp <;> omega)
 have hbw : Below w.heap.size w w3 := (((Below.refl _ _).alloc (Nat.le_refl _) _).alloc (by simp) _).trans (hb3.mono (by simp <;> omega))
 have HB := Lib.hid hbw
 have HB3 := Lib.hid hb3.size
 clear hbw hb3
 have C := Lib.hid (as_EE n ⟨w.heap.size,0,none⟩ (.int .i64 0) w3 HE3.out c3 f3)
 clear c3 f3
 go_wp2_with fail
 refine C.out.mono ?_
 rintro e w4 ⟨rfl,hg4,c4,f4⟩
 have HG := Lib.hid hg4
 clear hg4
 go_wp2
 refine bodyPost_ret (v := .tuple #[.int .i64 n,.int .i64 (-1),.int .i64 (-1)]) (by simp [results,Tryz.results13,go_sem,c4]) rfl ⟨rfl,?_⟩
 have h5 : Below w.heap.size w w4 := HB.out.grown HG.out HB.out.size (by rintro k hk; cases hk; exact Nat.le_refl _)
 exact h5.setCell (Nat.le_refl _) _
section
variable (w : World)
end
end Go.Proofs.YtneohanphabneaaGreatDoor
namespace Go.Proofs.YtneohanphabneaaGreatDoor
open Go.RowKit Ps
def eC : R Unit → Int
 | .ok _ _ => 0
 | .bad n _ => n
def tC : R Unit → Int
 | .ok _ _ => -1
 | .bad _ _ => 0
def aC : R Unit → Int
 | .ok _ _ => -1
 | .bad _ a => a
def Kl (w : World) (p : Nat) : Prop := 2 < p ∧ ∃ b o c,b < p ∧ Ps.kept.length ≤ c ∧ w.cell? ⟨2,0,none⟩ = some (.slice (some ⟨b,o,none⟩) Ps.kept.length c) ∧ Strs w b o Ps.kept
theorem Kl.same {w w' : World} {p : Nat} (h : Kl w p) (hb : ∀ k,k < p → w'.heap[k]? = w.heap[k]?) : Kl w' p := by
 obtain ⟨h0,b,o,c,hp,hc,h1,h2⟩ := h
 exact ⟨h0,b,o,c,hp,hc,(World.cell?_of_block (hb _ h0)).trans h1,h2.same (hb b hp)⟩
theorem Kl.mono {w : World} {p q : Nat} (h : Kl w p) (hq : p ≤ q) : Kl w q := by
 obtain ⟨h0,b,o,c,hp,h1⟩ := h
 exact ⟨by omega,b,o,c,by omega,h1⟩
structure RS (w : World) (p T : Nat) (l : List Sc.Tok) (s : R Unit) (i d : Nat) : Prop where
 blk : ∃ c,l.length ≤ c ∧ Blk w p 52 #[.slice (some ⟨T,0,none⟩) l.length c,.int .i64 i,.int .i64 d,.int .i64 (eC s),.int .i64 (tC s),.int .i64 (aC s)]
 tok : TB w T l
 ne : T < p
 hi : i < l.length
 hd : d ≤ 100
 last : Ps.Last l
 good : Ps.Good l
 small : l.length ≤ 100000
 ok : ∀ k,s = .ok () k → k = i
 bad : ∀ n a,s = .bad n a → n ≠ 0
 kl : Kl w p
section
variable {w w' : World} {p T : Nat} {l : List Sc.Tok} {s : R Unit} {i d : Nat}
theorem RS.kept (h : RS w p T l s i d) (hp : ∀ k,k ≤ p → w'.heap[k]? = w.heap[k]?) : RS w' p T l s i d := by
 obtain ⟨⟨c,hc,hb⟩,ht,hn,hi,hd,hz,hg,hs,ho,hv,hk⟩ := h
 exact ⟨⟨c,hc,(hp p (Nat.le_refl _)).trans hb⟩,ht.same (hp T (by omega)),hn,hi,hd,hz,hg,hs,ho,hv,hk.same fun k hk => hp k (by omega)⟩
theorem RS.lt (h : RS w p T l s i d) : p < w.heap.size ∧ T < w.heap.size := by
 obtain ⟨c,hc,hb⟩ := h.blk
 exact ⟨hb.lt,h.tok.lt⟩
theorem RS.alloc (h : RS w p T l s i d) (o : Obj) : RS (w.alloc o) p T l s i d :=
 h.kept fun k hk => Below.heap_alloc w o k (by have := h.lt.1; omega)
theorem RS.setCell (h : RS w p T l s i d) {x : Addr} (hp : p < x.block) (v : Value) : RS (w.setCell x v) p T l s i d :=
 h.kept fun k hk => Below.heap_setCell w x v k (by omega)
theorem RS.below (h : RS w p T l s i d) (hb : Below w.heap.size w w') : RS w' p T l s i d :=
 h.kept fun k hk => hb.block k (by have := h.lt.1; omega)
theorem RS.grown {row : Option Nat} (h : RS w p T l s i d) (hb : w.grownBy w' row) (hr : ∀ k,row = some k → p < k) : RS w' p T l s i d :=
 h.kept fun k hk => hb.block k (by have := h.lt.1; omega) (fun e => by have := hr k e.symm; omega)
theorem RS.drew (h : RS w p T l s i d) : RS w.drew p T l s i d := h.kept fun _ _ => rfl
theorem RS.facts (h : RS w p T l s i d) : ∃ c,l.length ≤ c ∧ Blk w p 52 #[.slice (some ⟨T,0,none⟩) l.length c,.int .i64 i,.int .i64 d,.int .i64 (eC s),.int .i64 (tC s),.int .i64 (aC s)] ∧
  (w.cell? ⟨T,i * 2,none⟩ = some (.string (Ps.W l i)) ∧ w.cell? ⟨T,i * 2 + 1,none⟩ = some (.int .i64 (Ps.A l i : Nat))) ∧ p < w.heap.size ∧ T < w.heap.size := by
 obtain ⟨⟨c,hc,hb⟩,ht,hn,hi,hd,_,_,_,_,_,_⟩ := h
 obtain ⟨h3,h4⟩ := ht.cells i hi
 rw [Nat.mul_comm] at h3 h4
 exact ⟨c,hc,hb,⟨h3,h4⟩,hb.lt,ht.lt⟩
theorem RS.at (h : RS w p T l s i d) {s' : R Unit} {e : Nat} (hs : s = s') (hde : d = e) : RS w p T l s' i e := hs ▸ hde ▸ h
theorem RS.put (h : RS w p T l s i d) {s' : R Unit} {i' d' c : Nat} (hw : ∀ k,k ≠ p → w'.heap[k]? = w.heap[k]?) (hc : l.length ≤ c)
  (hb : Blk w' p 52 #[.slice (some ⟨T,0,none⟩) l.length c,.int .i64 i',.int .i64 d',.int .i64 (eC s'),.int .i64 (tC s'),.int .i64 (aC s')])
  (hi : i' < l.length) (hd : d' ≤ 100) (hok : ∀ k,s' = .ok () k → k = i') (hbad : ∀ n a,s' = .bad n a → n ≠ 0) : RS w' p T l s' i' d' :=
 ⟨⟨c,hc,hb⟩,h.tok.same (hw T (by have := h.ne; omega)),h.ne,hi,hd,h.last,h.good,h.small,hok,hbad,h.kl.same fun k hk => hw k (by omega)⟩
end
end Go.Proofs.YtneohanphabneaaGreatDoor
namespace Go.Proofs.YtneohanphabneaaGreatDoor
open Go.RowKit Ps
open Go.Deep (open_slice open_slice1)
def strD (ks : List ByteArray) : DataW Unit := .slice (ks.map fun k => .lit (.string k.data.toList)) []
theorem trod_string {w : World} {n : Nat} {v : Value} {s : List UInt8} {p : List MemPlace} (h : DataW.trod (fun _ => ()) Tryz.prog w 0 (fun _ => true) false n 9 [v] = some (.lit (.string s),p)) : v = .string ⟨s.toArray⟩ := by
 cases n with
 | zero => simp [DataW.trod] at h
 | succ n =>
  unfold DataW.trod at h
  simp only [Tryz.underlying9] at h
  split at h <;> simp_all
  rename_i s0 _ _
  obtain ⟨_,h1,_⟩ := h
  rw [← h1]
theorem cell_lt {w : World} {b o : Nat} {sp : Option Nat} {v : Value} (h : w.cell? ⟨b,o,sp⟩ = some v) : b < w.heap.size := by
 rcases Nat.lt_or_ge b w.heap.size with h1 | h1
 ·exact h1
 ·unfold World.cell? at h
  rw [Array.getElem?_eq_none h1] at h
  cases h
theorem trod_slice_c {w : World} {t e : TypeId} {fuel : Nat} {v : Value} {ds : List (DataW Unit)} {p : List MemPlace} (ht : Tryz.prog.underlying t = some (.slice e)) (hc : Tryz.prog.cellsOf e = 1) (hks : ds ≠ []) (h : DataW.trod (fun _ => ()) Tryz.prog w 0 (fun _ => true) false fuel t [v] = some (.slice ds [],p)) :
  ∃ b o c n,v = .slice (some ⟨b,o,none⟩) ds.length c ∧ ds.length ≤ c ∧ b < w.heap.size ∧ ∀ i (h : i < ds.length),∃ u q,w.cell? ⟨b,o + i,none⟩ = some u ∧ DataW.trod (fun _ => ()) Tryz.prog w 0 (fun _ => true) false n e [u] = some (ds[i],q) := by
 rcases open_slice1 ht hc h with ⟨_,hx⟩ | ⟨a,len,cap,m,n,V,D,Pl,hv,hb,hl,hm,hmm,hx,hel⟩
 ·cases hx
 ·simp only [List.cons.injEq,and_true] at hv
  subst hv
  simp only [Prod.mk.injEq,DataW.slice.injEq] at hx
  obtain ⟨⟨hd,hr⟩,_⟩ := hx
  have hlen : len = ds.length := by rw [hd]; simp
  subst hlen
  simp only [if_true] at hmm
  have hpos : 0 < ds.length := List.length_pos_iff.2 hks
  obtain ⟨b,o,sp⟩ := a
  have h0 := (hel 0 (by omega)).1
  have e0 : (⟨b,o,sp⟩ : Addr).add 0 = ⟨b,o,sp⟩ := by unfold Addr.add; rfl
  rw [e0] at h0
  have hsp := cell_spot h0
  subst hsp
  refine ⟨b,o,cap,n,rfl,hl,cell_lt h0,fun i hi => ⟨V i,Pl i,?_,?_⟩⟩
  ·have h1 := (hel i (by omega)).1
   have ea : (⟨b,o,none⟩ : Addr).add i = ⟨b,o + i,none⟩ := by
    unfold Addr.add
    by_cases hz : i = 0
    ·rw [if_pos hz,hz]; rfl
    ·rw [if_neg hz]
   rw [ea] at h1
   exact h1
  ·have := (hel i (by omega)).2
   rw [this]
   have e : ds[i] = D i := by
    have h2 : ds[i]? = some (D i) := by rw [hd]; simp [hi]
    rw [List.getElem?_eq_getElem hi] at h2
    exact Option.some.inj h2
   rw [e]
theorem read_strs {w : World} {fuel : Nat} {v : Value} {ks : List ByteArray} {p : List MemPlace} (hks : ks ≠ []) (h : DataW.trod (fun _ => ()) Tryz.prog w 0 (fun _ => true) false fuel 38 [v] = some (strD ks,p)) :
  ∃ b o c,v = .slice (some ⟨b,o,none⟩) ks.length c ∧ ks.length ≤ c ∧ b < w.heap.size ∧ Strs w b o ks := by
 obtain ⟨b,o,c,n,h1,h2,h3,h4⟩ := trod_slice_c Tryz.underlying38 (by kernel_rfl) (by simpa using hks) h
 rw [List.length_map] at h1 h2
 refine ⟨b,o,c,h1,h2,h3,fun j hj => ?_⟩
 obtain ⟨u,q,h5,h6⟩ := h4 j (by simpa using hj)
 rw [List.getElem_map] at h6
 rw [h5,trod_string h6]
theorem global_lt {w : World} {n : String} {g : Nat} {cs : Array Value} (hg : Tryz.prog.globalNamed n = some g) (hv : w.var? Tryz.prog n = some cs) (hc : 0 < cs.size) : g < w.heap.size ∧ w.cell? ⟨g,0,none⟩ = some cs[0] := by
 have h := World.var?_cell hg hv 0
 have h2 : w.cell? ⟨g,0,none⟩ = some cs[0] := by rw [h,Array.getElem?_eq_getElem hc]
 exact ⟨cell_lt h2,h2⟩
theorem g_levels : Tryz.prog.globalNamed "oberlin/parse.levels" = some 1 := by kernel_rfl
theorem one_cell {w : World} {fuel : Nat} {t e : TypeId} {cs : List Value} {ds : List (DataW Unit)} {p : List MemPlace} (ht : Tryz.prog.underlying t = some (.slice e)) (h : DataW.trod (fun _ => ()) Tryz.prog w 0 (fun _ => true) false fuel t cs = some (.slice ds [],p)) : ∃ v,cs = [v] := by
 rcases open_slice ht h with ⟨rfl,_⟩ | ⟨_,_,_,_,_,_,_,rfl,_⟩
 ·exact ⟨_,rfl⟩
 ·exact ⟨_,rfl⟩
def levD : DataW Unit := .slice (Ps.levels.map strD) []
theorem levels_laid {w : World} (h : Lib.VarReads Tryz.prog w "oberlin/parse.levels" levD) : Lv w w.heap.size := by
 obtain ⟨g,t,cs,fuel,p,h1,h2,h3,h4⟩ := h
 obtain rfl := Option.some.inj (g_levels.symm.trans h1)
 have ht : (Tryz.prog.globals[1]?).map (·.type) = some 163 := by kernel_rfl
 obtain rfl := Option.some.inj (ht.symm.trans h2)
 obtain ⟨v,hcs⟩ := one_cell Tryz.underlying163 h4
 rw [hcs] at h4
 obtain ⟨b,o,c,n,rfl,g2,g3,g4⟩ := trod_slice_c Tryz.underlying163 (by kernel_rfl) (by decide) h4
 have hsz : cs = #[.slice (some ⟨b,o,none⟩) (Ps.levels.map strD).length c] := by rw [← Array.toArray_toList (xs := cs),hcs]
 subst hsz
 obtain ⟨g5,g6⟩ := global_lt g_levels h3 (by simp)
 refine ⟨g5,b,o,c,g3,g6,fun k hk => ?_⟩
 obtain ⟨u,q,h5,h6⟩ := g4 k (by simpa using hk)
 rw [List.getElem_map] at h6
 obtain ⟨b1,o1,c1,rfl,_,g8,g9⟩ := read_strs (by
  have : ∀ x ∈ Ps.levels,x ≠ [] := by decide
  exact this _ (List.getElem_mem hk)) h6
 exact ⟨b1,o1,c1,g8,h5,g9⟩
end Go.Proofs.YtneohanphabneaaGreatDoor
