/-
  The calls of chapter 8 on the tree as plain data. No program in sight. Conditions: none.
-/
import Derived.Test.YtnnjlpkjpbbklaaDomLem
set_option linter.unusedVariables false
set_option linter.unusedSimpArgs false
namespace Go.Proofs.Ytnnjlpkjpbbklaa

def elementOk (tag : Int) : Bool := decide (1 ≤ tag) && decide (tag ≤ 16)

namespace DT
def new (cap dep : Int) : DT := ⟨cap, dep, [some ⟨1, [], ByteArray.empty, [], none⟩]⟩
def roomFor (T : DT) (n : Int) : Bool := decide (n ≤ T.cap - (T.count : Int))
def element (T : DT) (tag : Int) (al : List (Bytes × Bytes)) : (Int × Int) × DT :=
  if elementOk tag = false then ((0, 1), T) else if T.roomFor 1 = false then ((0, 3), T) else (((T.slot : Int), 0), T.addAt ⟨tag, al, ByteArray.empty, [], none⟩)
/-- s: written anew. -/
def text (T : DT) (s : Bytes) : (Int × Int) × DT :=
  if 8192 < s.size then ((0, 10), T) else if T.roomFor 1 = false then ((0, 3), T) else (((T.slot : Int), 0), T.addAt ⟨0, [], s, [], none⟩)
def setAttrs (T : DT) (id : Int) (al : List (Bytes × Bytes)) : Int × DT :=
  match T.get id with
  | none => (2, T)
  | some n => if n.tag = 0 then (6, T) else (0, T.put id.toNat (some { n with attrs := al }))
def setText (T : DT) (id : Int) (s : Bytes) : Int × DT :=
  match T.get id with
  | none => (2, T)
  | some n => if n.tag ≠ 0 then (6, T) else if 8192 < s.size then (10, T) else (0, T.put id.toNat (some { n with text := s }))
def setTag (T : DT) (id tag : Int) : Int × DT :=
  match T.get id with
  | none => (2, T)
  | some n => if n.tag = 0 then (6, T) else if elementOk tag = false ∨ id = 0 then (1, T) else (0, T.put id.toNat (some { n with tag := tag }))
end DT
end Go.Proofs.Ytnnjlpkjpbbklaa
