/-
  The tree of nodes as plain data: what package dom and the document's answer of chapter 8 both compute. No program in sight. Conditions: none.
-/
set_option linter.unusedVariables false
set_option linter.unusedSimpArgs false
namespace Go.Proofs.Ytnnjlpkjpbbklaa

abbrev Bytes := ByteArray

structure Nd where
  tag : Int
  attrs : List (Bytes × Bytes)
  text : Bytes
  kids : List Nat
  up : Option Nat

structure DT where
  cap : Int
  dep : Int
  nodes : List (Option Nd)

inductive PNode where
  | mk (tag : Int) (attrs : List (Bytes × Bytes)) (text : Bytes) (kids : List PNode)

namespace PNode
def tag : PNode → Int | mk t _ _ _ => t
def attrs : PNode → List (Bytes × Bytes) | mk _ a _ _ => a
def text : PNode → Bytes | mk _ _ t _ => t
def kids : PNode → List PNode | mk _ _ _ k => k
end PNode

namespace DT
/-- The node of a number; none: there is none. -/
def at_ (T : DT) (i : Nat) : Option Nd := (T.nodes[i]?).getD none
def get (T : DT) (id : Int) : Option Nd := if id < 0 then none else T.at_ id.toNat
def has (T : DT) (id : Int) : Bool := (T.get id).isSome
def count (T : DT) : Nat := T.nodes.countP Option.isSome
def put (T : DT) (i : Nat) (n : Option Nd) : DT := { T with nodes := T.nodes.set i n }
/-- The least number that no node has. -/
def slot (T : DT) : Nat := T.nodes.findIdx Option.isNone
def addAt (T : DT) (n : Nd) : DT := if T.slot < T.nodes.length then T.put T.slot (some n) else { T with nodes := T.nodes ++ [some n] }
def upI (o : Option Nat) : Int := match o with | none => -1 | some p => p
def tagOf (T : DT) (id : Int) : Int := match T.get id with | some n => n.tag | none => -1
def upOf (T : DT) (id : Int) : Int := match T.get id with | some n => upI n.up | none => -1
def kidsOf (T : DT) (id : Int) : List Nat := match T.get id with | some n => n.kids | none => []
def textOf (T : DT) (id : Int) : Bytes := match T.get id with | some n => n.text | none => ByteArray.empty
def attrsOf (T : DT) (id : Int) : List (Bytes × Bytes) := match T.get id with | some n => n.attrs | none => []
/-- The number of a node's parent, fuel by fuel. -/
def up (T : DT) (i : Nat) : Option Nat := (T.at_ i).bind Nd.up
def depthF (T : DT) : Nat → Nat → Nat
  | 0, _ => 0
  | f + 1, i => match T.up i with | none => 0 | some p => depthF T f p + 1
def fuel : Nat := 64
def depth (T : DT) (id : Int) : Int := if T.has id then (T.depthF fuel id.toNat : Int) else -1
def rootF (T : DT) : Nat → Nat → Nat
  | 0, i => i
  | f + 1, i => match T.up i with | none => i | some p => rootF T f p
def root (T : DT) (i : Nat) : Nat := T.rootF fuel i
def withinF (T : DT) : Nat → Nat → Nat → Bool
  | 0, i, o => i == o
  | f + 1, i, o => i == o || match T.up i with | none => false | some p => withinF T f p o
def within (T : DT) (i o : Nat) : Bool := T.withinF fuel i o
def heightF (T : DT) : Nat → Nat → Nat
  | 0, _ => 0
  | f + 1, i => match T.at_ i with
    | none => 0
    | some n => n.kids.foldl (fun h k => max h (heightF T f k + 1)) 0
def height (T : DT) (id : Int) : Int := if T.has id then (T.heightF fuel id.toNat : Int) else -1
def plainF (T : DT) : Nat → Nat → PNode
  | 0, _ => .mk 0 [] ByteArray.empty []
  | f + 1, i => match T.at_ i with
    | none => .mk 0 [] ByteArray.empty []
    | some n => .mk n.tag n.attrs n.text (n.kids.map (plainF T f))
def plain (T : DT) (id : Int) : PNode := if T.has id then T.plainF fuel id.toNat else .mk 0 [] ByteArray.empty []
def indexOf (T : DT) (id : Int) : Int := match T.get (T.upOf id) with
  | none => -1
  | some p => if (id.toNat) ∈ p.kids ∧ 0 ≤ id then (p.kids.idxOf id.toNat : Int) else -1
def live (T : DT) (id : Int) : Bool := T.has id && T.within id.toNat 0

/-- What is sound of every tree that calls make. -/
structure WF (T : DT) : Prop where
  cap1 : 1 ≤ T.cap
  cap2 : T.cap ≤ 2000
  dep1 : 0 ≤ T.dep
  dep2 : T.dep ≤ 40
  len : (T.nodes.length : Int) ≤ T.cap
  host : ∃ n, T.at_ 0 = some n ∧ n.tag = 1 ∧ n.up = none
  kid : ∀ i n k, T.at_ i = some n → k ∈ n.kids → ∃ m, T.at_ k = some m ∧ m.up = some i
  par : ∀ i n p, T.at_ i = some n → n.up = some p → ∃ m, T.at_ p = some m ∧ i ∈ m.kids
  nodup : ∀ i n, T.at_ i = some n → n.kids.Nodup
  leaf : ∀ i n, T.at_ i = some n → n.tag = 0 → n.kids = []
  tags : ∀ i n, T.at_ i = some n → 0 ≤ n.tag ∧ n.tag ≤ 16
  txt : ∀ i n, T.at_ i = some n → n.text.size ≤ 8192
  rank : ∃ d : Nat → Nat, ∀ i n, T.at_ i = some n → (n.up = none → d i = 0) ∧ (∀ p, n.up = some p → d i = d p + 1) ∧ (d i : Int) ≤ T.dep
end DT
end Go.Proofs.Ytnnjlpkjpbbklaa
