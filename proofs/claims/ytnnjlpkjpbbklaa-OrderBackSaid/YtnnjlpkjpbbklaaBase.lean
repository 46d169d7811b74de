/-
  Small words and lemmas that all texts of this seat use. Conditions: none.
-/
import Derived.Test.YtnnjlpkjpbbklaaChecked
import Derived.WalkKit
import Derived.WalkSpells
import Derived.WalkLawsBesides
import Derived.Lib.Hide
import Derived.LaidEqlPtr
import Derived.ArgAppend
import Derived.Lib.QuietBelow
import Derived.BigQuiet
import Derived.Deep.QuietTactic
import Derived.Deep.RegionWith
import Derived.Deep.RegionHeld3
import Derived.Deep.DeepCutAuto
set_option linter.unusedVariables false
set_option linter.unusedSimpArgs false
namespace Go.Proofs.Ytnnjlpkjpbbklaa
open Go.RowKit

abbrev I (n : Int) : Value := .int .i64 n

/-- The call hands back v; below the heap that it found nothing has turned. -/
def Ret (v : Value) (w : World) (e : Ending) (w' : World) : Prop := e = .returned v ∧ Below w.heap.size w w'

theorem bcell {W w1 : World} (hb : Below W.heap.size W w1) : (∀ b o, b < W.heap.size → w1.cell? ⟨b, o, none⟩ = W.cell? ⟨b, o, none⟩) ∧ (∀ b o, b < W.heap.size → w1.frozen? ⟨b, o, none⟩ = W.frozen? ⟨b, o, none⟩) :=
  ⟨fun b o h => hb.cell (p := ⟨b, o, none⟩) h, fun b o h => hb.frozen (p := ⟨b, o, none⟩) h⟩

theorem bcellN {B : Nat} {W w1 : World} (hb : Below B W w1) : (∀ b o, b < B → w1.cell? ⟨b, o, none⟩ = W.cell? ⟨b, o, none⟩) ∧ (∀ b o, b < B → w1.frozen? ⟨b, o, none⟩ = W.frozen? ⟨b, o, none⟩) :=
  ⟨fun b o h => hb.cell (p := ⟨b, o, none⟩) h, fun b o h => hb.frozen (p := ⟨b, o, none⟩) h⟩

theorem unhid {p : Prop} (h : Hid p) : p := h

/-- Block b is just the row cs of cells of type t; none is frozen. -/
def At (w : World) (b : Nat) (t : TypeId) (cs : Array Value) : Prop := w.heap[b]? = some (.cells cs t (0, 0))
section
variable {w w' : World} {b : Nat} {t : TypeId} {cs : Array Value}
theorem At.lt (h : At w b t cs) : b < w.heap.size := (Array.getElem?_eq_some_iff.1 h).1
theorem At.cell (h : At w b t cs) : ∀ i, w.cell? ⟨b, i, none⟩ = cs[i]? := fun i => cell_of_row w b i cs t (0, 0) h
theorem At.frozen (h : At w b t cs) : ∀ i, w.frozen? ⟨b, i, none⟩ = false := fun i => by
  have h' : w.heap[b]? = some (.cells cs t (0, 0)) := h
  simp [World.frozen?, h']
theorem At.fresh (w : World) (t : TypeId) (cs : Array Value) (hb : b = w.heap.size) : At (w.alloc (.cells cs t)) b t cs := by subst hb; exact heap_alloc_new w _
theorem At.alloc (h : At w b t cs) (o : Obj) : At (w.alloc o) b t cs := (Below.heap_alloc w o b h.lt).trans h
theorem At.set (h : At w b t cs) (i : Nat) (u : Value) : At (w.setCell ⟨b, i, none⟩ u) b t (cs.setIfInBounds i u) := by
  have h' : w.heap[b]? = some (.cells cs t (0, 0)) := h
  show (w.setCell ⟨b, i, none⟩ u).heap[b]? = _
  simp [World.setCell, Array.getElem?_modify, h']
theorem At.set' {cs' : Array Value} {i : Nat} {u : Value} (h : At w b t cs) (e : cs.setIfInBounds i u = cs') : At (w.setCell ⟨b, i, none⟩ u) b t cs' := by
  subst e; exact h.set i u
theorem At.far (h : At w b t cs) {p : Addr} (hp : b ≠ p.block) (u : Value) : At (w.setCell p u) b t cs := (Below.heap_setCell w p u b hp).trans h
theorem At.drew (h : At w b t cs) : At w.drew b t cs := h
theorem At.drewN (h : At w b t cs) (n : Nat) : At (w.drewN n) b t cs := h
theorem At.below {B : Nat} (h : At w b t cs) (hb : Below B w w') (hB : b < B) : At w' b t cs := (hb.block b hB).trans h
theorem At.keep (h : At w b t cs) (hb : Below w.heap.size w w') : At w' b t cs := h.below hb h.lt
end

theorem any_take_succ (p : Int → Bool) (zs : List Int) (k : Nat) (hk : k < zs.length) : (zs.take (k + 1)).any p = ((zs.take k).any p || p (zs.getD k 0)) := by
  rw [List.take_succ_eq_append_getElem hk, List.any_append]
  simp [List.getD, List.getElem?_eq_getElem hk]

/-- A slice value that reads as the ints zs, in block b from its head. -/
def Ints (w : World) (b n : Nat) (zs : List Int) : Prop := zs.length = n ∧ ∀ j, j < n → w.cell? ⟨b, j, none⟩ = some (I (zs.getD j 0))

theorem ret_int {k : IntKind} {a b : Int} (h : a = b) : Ending.returned (.int k a) = .returned (.int k b) := by rw [h]
theorem ret_bool {a b : Bool} (h : a = b) : Ending.returned (.bool a) = .returned (.bool b) := by rw [h]

/-- What was laid ahead of the call is forgotten. -/
theorem un {B : Nat} {w w' : World} {o : Obj} (h : Below B (w.alloc o) w') (hB : B ≤ w.heap.size) : Below B w w' :=
  ((Below.refl B w).alloc hB o).trans h
theorem unN {B B' : Nat} {w w' : World} {o : Obj} (h : Below B' (w.alloc o) w') (hB : B ≤ w.heap.size) (hb : B ≤ B') : Below B w w' := un (h.mono hb) hB

theorem _root_.Go.RowKit.Below.drewN' {B : Nat} {a w : World} (h : Below B a w) (n : Nat) : Below B a (w.drewN n) := ⟨h.os, h.tape, h.output, h.size, h.block⟩

theorem size_drewN' (w : World) (n : Nat) : (w.drewN n).heap.size = w.heap.size := rfl

/-- A region that draws, its callees contracts ending in Ret: a callee's contract in a world of the class. -/
theorem quietRet {P : Program} {f : FuncId} {args : Array Value} {w : World} {d : Nat} {os : Array Obj} {v : Value} (h : Calls P f args (Go.Sort.grow (redrawn w d) os) (Ret v (Go.Sort.grow (redrawn w d) os))) :
    Calls P f args (Go.Sort.grow (redrawn w d) os) fun e w'' => e = .returned v ∧ ∃ p : Regrown, w'' = Go.Sort.grow (redrawn w p.d) p.os := Calls.regrown_of h
@[go_sem] theorem cell_grow (w : World) (a : Addr) (d : Nat) (os : Array Obj) (h : (w.cell? a).isSome = true) : (Go.Sort.grow (redrawn w d) os).cell? a = w.cell? a := by
  obtain ⟨u, hu⟩ := Option.isSome_iff_exists.1 h
  rw [hu]; exact cell_regrown hu d os
/-- An old cell, behind a new block: that it is there says that it is old. -/
@[go_sem] theorem cell_alloc_some (w : World) (a : Addr) (o : Obj) (h : (w.cell? a).isSome = true) : (w.alloc o).cell? a = w.cell? a := by
  obtain ⟨u, hu⟩ := Option.isSome_iff_exists.1 h
  exact World.cell?_alloc_lt w o a (World.block_lt_of_cell? w a hu)
@[go_sem] theorem frozen_alloc_some (w : World) (a : Addr) (o : Obj) (h : (w.cell? a).isSome = true) : (w.alloc o).frozen? a = w.frozen? a := by
  obtain ⟨u, hu⟩ := Option.isSome_iff_exists.1 h
  have hlt := World.block_lt_of_cell? w a hu
  exact World.frozen?_alloc_old w o a (by omega)
theorem below_class {w w' : World} (h : ∃ p : Regrown, w' = Go.Sort.grow (redrawn w p.d) p.os) : Below w.heap.size w w' := by
  obtain ⟨p, rfl⟩ := h
  exact below_regrown w p.d p.os

theorem infoInt : (Try.prog.info? 3).map (fun i => (i.zero, i.size, i.bytes)) = some (some (.int .i64 0), 1, 8) := by kernel_rfl
end Go.Proofs.Ytnnjlpkjpbbklaa
