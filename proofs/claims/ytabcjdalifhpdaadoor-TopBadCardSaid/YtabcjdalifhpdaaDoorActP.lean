/- Worlds of actors and what is done in them, as plain functions of plain data. No condition; no run. -/
import Derived.Test.YtabcjdalifhpdaaDoorTransfer
import Derived.Test.YtabcjdalifhpdaaDoorAlloc
import Derived.Test.YtabcjdalifhpdaaDoorFlowM
namespace Go.Proofs.YtabcjdalifhpdaaDoor
open Go.RowKit
def nilV : V := ⟨0, 0⟩
def noAc : Ac := ⟨0, 0, ⟨0, []⟩, [], 0, [], 0⟩
def rootsA (a : Ac) : List V := a.regs ++ a.box
def acB (ps : List (List Ins)) (n : Int) (a : Ac) : Bool :=
 decide (0 ≤ a.kind) && decide (a.kind < ps.length) && decide (-1 ≤ a.parent) && decide (a.parent < n) && decide (0 ≤ a.fin) && decide (a.fin ≤ 8) && decide (a.regs.length = 8) && decide (a.box.length ≤ 6) &&
  hpB a.heap (rootsA a) && decide (-1 ≤ a.pc) && decide (a.pc < ((ps.getD a.kind.toNat []).length : Int)) && a.box.all (fun v => v.k == 2) && (a.fin == 0 || (decide (a.box.length = 0) && decide (a.heap.objs.length = 0) && a.pc == -1))
def tdB (n : Nat) (t : Td) : Bool := decide (0 ≤ t.actor) && decide (t.actor < n) && decide (-1099511627776 ≤ t.n) && decide (t.n ≤ 1099511627776)
def wdB (ps : List (List Ins)) (W : Wd) : Bool :=
 decide (1 ≤ W.actors.length) && decide (W.actors.length ≤ 8) && decide (W.prints.length ≤ 500) && (List.range W.actors.length).all (fun i => acB ps i (W.actors.getD i noAc)) && W.prints.all (tdB W.actors.length)
noncomputable def worldE (ps : List (List Ins)) (W : Wd) : Int := if (verP ps).2.2 ≠ 0 then (verP ps).2.2 else if wdB ps W then 0 else 8
def deedF (d : Deed) : Int :=
 if d.kind < 1 ∨ 3 < d.kind then 3 else if d.actor < 0 ∨ 8 ≤ d.actor ∨ d.n < -1099511627776 ∨ 1099511627776 < d.n ∨ d.m < -1099511627776 ∨ 1099511627776 < d.m then 2 else 0
def Wd.at_ (W : Wd) (n : Nat) : Ac := W.actors.getD n noAc
def Wd.put (W : Wd) (n : Nat) (a : Ac) : Wd := ⟨W.actors.set n a, W.prints⟩
def Ac.reg (a : Ac) (r : Int) : V := a.regs.getD r.toNat nilV
def Ac.setReg (a : Ac) (r : Int) (v : V) : Ac := { a with regs := a.regs.set r.toNat v }
def Ac.setHeap (a : Ac) (h : Hp) : Ac := { a with heap := h }
def Ac.setPc (a : Ac) (n : Int) : Ac := { a with pc := n }
def Ac.setBox (a : Ac) (l : List V) : Ac := { a with box := l }
def livesB (W : Wd) (n : Int) : Bool := decide (0 ≤ n) && decide (n < W.actors.length) && ((W.at_ n.toNat).fin == 0)
noncomputable def clearA (a : Ac) : Ac :=
 if hpB a.heap (rootsA a) = false then a else
 { a with heap := collH a.heap (rootsA a) (reachL a.heap.objs (rootsA a)), regs := (collV a.heap (rootsA a) (reachL a.heap.objs (rootsA a))).take 8, box := (collV a.heap (rootsA a) (reachL a.heap.objs (rootsA a))).drop 8 }
noncomputable def readyA (a : Ac) (f : Int) : Ac := if allocE a.heap f = 7 then clearA a else a
noncomputable def givenE (a : Ac) (f : Int) : Int := allocE (readyA a f).heap f
noncomputable def givenV (a : Ac) (f : Int) : V := allocV (readyA a f).heap f
noncomputable def givenA (a : Ac) (f : Int) : Ac := if givenE a f = 0 then (readyA a f).setHeap (allocH (readyA a f).heap f) else readyA a f
def twoH (h : Hp) (v : V) (x y : Int) : Hp := setH (setH h v 0 ⟨1, x⟩) v 1 ⟨1, y⟩
noncomputable def tellA (a : Ac) (x y : Int) : Ac :=
 if givenE a 2 = 0 then ((givenA a 2).setHeap (twoH (givenA a 2).heap (givenV a 2) x y)).setBox ((givenA a 2).box ++ [givenV a 2]) else givenA a 2
def openB (W : Wd) (n : Int) : Bool := livesB W n && !decide ((W.at_ n.toNat).box.length = 6)
noncomputable def tellW (W : Wd) (n x y : Int) : Wd := if openB W n then W.put n.toNat (tellA (W.at_ n.toNat) x y) else W
def goneA (a : Ac) (how : Int) : Ac := ⟨a.kind, a.parent, ⟨a.heap.most, []⟩, List.replicate 8 nilV, -1, [], how⟩
noncomputable def endW (W : Wd) (n : Nat) (how : Int) : Wd := tellW (W.put n (goneA (W.at_ n) how)) (W.at_ n).parent n how
noncomputable def spoilt (h : Hp) (v : V) : Bool := hpB h [v] == false || (reachL h.objs [v]).any (deadAt h.objs)
def emptied (W : Wd) (n : Nat) (r : Int) (move : Bool) : Wd := if move then W.put n ((W.at_ n).setReg r nilV) else W
noncomputable def transR (fr : Hp) (v : V) (tt : Hp) : Int := transE fr v tt (reachL fr.objs [v])
noncomputable def movedW (W : Wd) (n t : Nat) (r : Int) (move : Bool) : Wd :=
 if transR (W.at_ n).heap ((W.at_ n).reg r) (W.at_ t).heap ≠ 0 then W else
 (W.put n ((W.at_ n).setHeap (transFrom (W.at_ n).heap ((W.at_ n).reg r) (W.at_ t).heap (reachL (W.at_ n).heap.objs [(W.at_ n).reg r]) move))).put t
  (((W.put n ((W.at_ n).setHeap (transFrom (W.at_ n).heap ((W.at_ n).reg r) (W.at_ t).heap (reachL (W.at_ n).heap.objs [(W.at_ n).reg r]) move))).at_ t).setHeap (transTo (W.at_ n).heap ((W.at_ n).reg r) (W.at_ t).heap (reachL (W.at_ n).heap.objs [(W.at_ n).reg r]))
   |>.setBox ((W.at_ t).box ++ [transV (W.at_ n).heap ((W.at_ n).reg r) (W.at_ t).heap (reachL (W.at_ n).heap.objs [(W.at_ n).reg r])]))
noncomputable def roomW (W : Wd) (n t : Nat) (r : Int) : Wd := if transR (W.at_ n).heap ((W.at_ n).reg r) (W.at_ t).heap = 7 then W.put t (clearA (W.at_ t)) else W
noncomputable def sendW (W : Wd) (n : Nat) (r tt : Int) (move : Bool) : Wd :=
 emptied (if spoilt (W.at_ n).heap ((W.at_ n).reg r) then W else if openB W tt = false then W
  else if tt = n ∧ move = true then W.put n ((W.at_ n).setBox ((W.at_ n).box ++ [(W.at_ n).reg r]))
  else movedW (roomW W n tt.toNat r) n tt.toNat r move) n r move
def begunA (kind parent : Int) (h : Hp) (v : V) : Ac := ⟨kind, parent, h, v :: List.replicate 7 nilV, -1, [], 0⟩
noncomputable def spawnE (W : Wd) (n : Nat) (i : Ins) : Int :=
 if W.actors.length = 8 then 6 else if transR (W.at_ n).heap ((W.at_ n).reg i.b) ⟨(W.at_ n).heap.most, []⟩ ≠ 0 then 8 else 0
noncomputable def spawnW (W : Wd) (n : Nat) (i : Ins) : Wd :=
 if spawnE W n i ≠ 0 then W else
 ⟨W.actors.set n ((((W.at_ n).setHeap (transFrom (W.at_ n).heap ((W.at_ n).reg i.b) ⟨(W.at_ n).heap.most, []⟩ (reachL (W.at_ n).heap.objs [(W.at_ n).reg i.b]) true)).setReg i.b nilV).setReg i.a ⟨1, W.actors.length⟩) ++
  [begunA i.n n (transTo (W.at_ n).heap ((W.at_ n).reg i.b) ⟨(W.at_ n).heap.most, []⟩ (reachL (W.at_ n).heap.objs [(W.at_ n).reg i.b])) (transV (W.at_ n).heap ((W.at_ n).reg i.b) ⟨(W.at_ n).heap.most, []⟩ (reachL (W.at_ n).heap.objs [(W.at_ n).reg i.b]))], W.prints⟩
def fieldEnd (h : Hp) (v : V) (f : Int) : Int := if gotE h.most h.objs v f = 0 then 0 else if gotE h.most h.objs v f = 2 then 4 else 8
def fieldV (h : Hp) (v : V) (f : Int) : V := gotV h.most h.objs v f
def sumN (op x y : Int) : Int := if op = 2 then x + y else if op = 3 then x - y else if x < y then 1 else 0
noncomputable def selfE (a : Ac) (i : Ins) : Int :=
 if i.op = 0 then (if (a.reg 0).k = 2 then 0 else 8)
 else if i.op = 2 ∨ i.op = 3 ∨ i.op = 4 then (if (a.reg i.a).k ≠ 1 ∨ (a.reg i.b).k ≠ 1 then 8 else if wordB (sumN i.op (a.reg i.a).n (a.reg i.b).n) then 0 else 7)
 else if i.op = 5 then (if (a.reg i.a).k = 1 then 0 else 8)
 else if i.op = 7 then (if givenE a i.n = 0 then 0 else 5)
 else if i.op = 8 ∨ i.op = 10 then (if fieldEnd a.heap (a.reg i.b) i.n ≠ 0 then fieldEnd a.heap (a.reg i.b) i.n else if i.op = 8 ∧ (fieldV a.heap (a.reg i.b) i.n).k ≠ 1 then 2 else if i.op = 10 ∧ (fieldV a.heap (a.reg i.b) i.n).k ≠ 2 then 3 else 0)
 else if i.op = 9 ∨ i.op = 11 then (if fieldEnd a.heap (a.reg i.a) i.n ≠ 0 then fieldEnd a.heap (a.reg i.a) i.n else if (i.op = 9 ∧ (a.reg i.b).k ≠ 1) ∨ (i.op = 11 ∧ (a.reg i.b).k ≠ 2) then 8 else 0)
 else if i.op = 19 then 1 else 0
noncomputable def selfA (n : Nat) (a : Ac) (i : Ins) : Ac :=
 if i.op = 0 then { a with regs := a.reg 0 :: List.replicate 7 nilV }
 else if i.op = 1 then a.setReg i.a ⟨1, i.n⟩
 else if i.op = 2 ∨ i.op = 3 ∨ i.op = 4 then a.setReg i.a ⟨1, sumN i.op (a.reg i.a).n (a.reg i.b).n⟩
 else if i.op = 7 then (if givenE a i.n = 0 then (givenA a i.n).setReg i.a (givenV a i.n) else givenA a i.n)
 else if i.op = 8 ∨ i.op = 10 then a.setReg i.a (fieldV a.heap (a.reg i.b) i.n)
 else if i.op = 9 ∨ i.op = 11 then a.setHeap (setH a.heap (a.reg i.a) i.n (a.reg i.b))
 else if i.op = 12 then a.setReg i.a (a.reg i.b)
 else if i.op = 18 then a.setReg i.a nilV
 else if i.op = 16 then a.setReg i.a ⟨1, n⟩
 else a
def nextPc (a : Ac) (i : Ins) : Int := if i.op = 0 then -1 else if i.op = 6 ∨ (i.op = 5 ∧ (a.reg i.a).n = 0) then a.pc + i.n else a.pc + 1
def abroadB (op : Int) : Bool := op == 13 || op == 14 || op == 15 || op == 17
noncomputable def abroadE (W : Wd) (n : Nat) (i : Ins) : Int :=
 if i.op = 15 then (if ((W.at_ n).reg i.a).k = 1 then 0 else 8)
 else if i.op = 17 then (if ((W.at_ n).reg i.b).k ≠ 2 then 8 else spawnE W n i)
 else (if ((W.at_ n).reg i.a).k ≠ 2 ∨ ((W.at_ n).reg i.b).k ≠ 1 then 8 else if spoilt (W.at_ n).heap ((W.at_ n).reg i.a) then 8 else 0)
noncomputable def abroadW (W : Wd) (n : Nat) (i : Ins) : Wd :=
 if i.op = 15 then (if ((W.at_ n).reg i.a).k = 1 ∧ W.prints.length < 500 then ⟨W.actors, W.prints ++ [⟨n, ((W.at_ n).reg i.a).n⟩]⟩ else W)
 else if i.op = 17 then (if ((W.at_ n).reg i.b).k ≠ 2 then W else spawnW W n i)
 else (if ((W.at_ n).reg i.a).k ≠ 2 ∨ ((W.at_ n).reg i.b).k ≠ 1 then W else sendW W n i.a ((W.at_ n).reg i.b).n (i.op == 13))
noncomputable def didE (W : Wd) (n : Nat) (i : Ins) : Int := if abroadB i.op then abroadE W n i else selfE (W.at_ n) i
noncomputable def didW (W : Wd) (n : Nat) (i : Ins) : Wd :=
 if abroadB i.op then (abroadW W n i).put n (((abroadW W n i).at_ n).setPc (nextPc (W.at_ n) i)) else W.put n ((selfA n (W.at_ n) i).setPc (nextPc (W.at_ n) i))
noncomputable def leftW (W : Wd) (n : Nat) (i : Ins) : Wd :=
 if abroadB i.op then abroadW W n i else if i.op = 7 then W.put n (givenA (W.at_ n) i.n) else W
noncomputable def stepW (ps : List (List Ins)) (W : Wd) (n : Nat) : Wd :=
 if (W.at_ n).fin ≠ 0 then W
 else if 0 ≤ (W.at_ n).pc then (if didE W n ((ps.getD (W.at_ n).kind.toNat []).getD (W.at_ n).pc.toNat ⟨0, 0, 0, 0⟩) = 0 then didW W n ((ps.getD (W.at_ n).kind.toNat []).getD (W.at_ n).pc.toNat ⟨0, 0, 0, 0⟩)
  else endW (leftW W n ((ps.getD (W.at_ n).kind.toNat []).getD (W.at_ n).pc.toNat ⟨0, 0, 0, 0⟩)) n (didE W n ((ps.getD (W.at_ n).kind.toNat []).getD (W.at_ n).pc.toNat ⟨0, 0, 0, 0⟩)))
 else match (W.at_ n).box with
  | [] => W
  | v :: l => W.put n ((((W.at_ n).setReg 1 v).setBox l).setPc 0)
noncomputable def actW (ps : List (List Ins)) (W : Wd) (d : Deed) : Wd :=
 if (W.actors.length : Int) ≤ d.actor then W
 else if d.kind = 1 then stepW ps W d.actor.toNat
 else if d.kind = 2 then W.put d.actor.toNat (clearA (W.at_ d.actor.toNat))
 else tellW W d.actor d.n d.m
noncomputable def newE_ (ps : List (List Ins)) (most : Int) : Int := if (verP ps).2.2 ≠ 0 then (verP ps).2.2 else if most < 2 ∨ 60 < most then 2 else 0
def newW_ (most : Int) : Wd := ⟨[begunA 0 (-1) ⟨most, [⟨[⟨1, 0⟩, ⟨1, 0⟩], false⟩]⟩ ⟨2, 0⟩], []⟩
noncomputable def runE (ps : List (List Ins)) (most : Int) (l : List Deed) : Int :=
 if newE_ ps most ≠ 0 then newE_ ps most else if 3000 < l.length then 1 else match l.find? (fun d => deedF d != 0) with | some d => deedF d | none => 0
noncomputable def runW (ps : List (List Ins)) (most : Int) (l : List Deed) : Wd := if runE ps most l ≠ 0 then ⟨[], []⟩ else l.foldl (actW ps) (newW_ most)
end Go.Proofs.YtabcjdalifhpdaaDoor
