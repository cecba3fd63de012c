/- The data of the program as plain Lean types: values, objects, heaps, instructions, actors, worlds, acts. No condition; nothing here speaks of a run. -/
namespace Go.Proofs.YtabcjdalifhpdaaDoor
structure V where
 k : Int
 n : Int
structure Ob where
 fields : List V
 dead : Bool
structure Hp where
 most : Int
 objs : List Ob
structure Ins where
 op : Int
 a : Int
 b : Int
 n : Int
structure Ac where
 kind : Int
 parent : Int
 heap : Hp
 regs : List V
 pc : Int
 box : List V
 fin : Int
structure Td where
 actor : Int
 n : Int
structure Wd where
 actors : List Ac
 prints : List Td
structure Deed where
 kind : Int
 actor : Int
 n : Int
 m : Int
structure Rw where
 kind : Int
 a : Int
 b : Int
 c : Int
theorem V.same {x y : V} : x = y ↔ x.k = y.k ∧ x.n = y.n := by
 cases x; cases y; simp
theorem Ob.same {x y : Ob} : x = y ↔ x.fields = y.fields ∧ x.dead = y.dead := by
 cases x; cases y; simp
theorem Hp.same {x y : Hp} : x = y ↔ x.most = y.most ∧ x.objs = y.objs := by
 cases x; cases y; simp
theorem Ins.same {x y : Ins} : x = y ↔ x.op = y.op ∧ x.a = y.a ∧ x.b = y.b ∧ x.n = y.n := by
 cases x; cases y; simp
theorem Ac.same {x y : Ac} : x = y ↔ x.kind = y.kind ∧ x.parent = y.parent ∧ x.heap = y.heap ∧ x.regs = y.regs ∧ x.pc = y.pc ∧ x.box = y.box ∧ x.fin = y.fin := by
 cases x; cases y; simp
theorem Td.same {x y : Td} : x = y ↔ x.actor = y.actor ∧ x.n = y.n := by
 cases x; cases y; simp
theorem Wd.same {x y : Wd} : x = y ↔ x.actors = y.actors ∧ x.prints = y.prints := by
 cases x; cases y; simp
theorem Deed.same {x y : Deed} : x = y ↔ x.kind = y.kind ∧ x.actor = y.actor ∧ x.n = y.n ∧ x.m = y.m := by
 cases x; cases y; simp
instance : DecidableEq V := fun _ _ => decidable_of_iff _ V.same.symm
instance : DecidableEq Ob := fun _ _ => decidable_of_iff _ Ob.same.symm
instance : DecidableEq Hp := fun _ _ => decidable_of_iff _ Hp.same.symm
instance : DecidableEq Ins := fun _ _ => decidable_of_iff _ Ins.same.symm
instance : DecidableEq Ac := fun _ _ => decidable_of_iff _ Ac.same.symm
instance : DecidableEq Td := fun _ _ => decidable_of_iff _ Td.same.symm
instance : DecidableEq Wd := fun _ _ => decidable_of_iff _ Wd.same.symm
instance : DecidableEq Deed := fun _ _ => decidable_of_iff _ Deed.same.symm
end Go.Proofs.YtabcjdalifhpdaaDoor
