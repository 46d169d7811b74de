/-
  Insert and Remove of chapter 8 on the tree as plain data. No program in sight. Conditions: none.
-/
import Derived.Test.YtnnjlpkjpbbklaaDomOps
set_option linter.unusedVariables false
set_option linter.unusedSimpArgs false
namespace Go.Proofs.Ytnnjlpkjpbbklaa
namespace DT
def insertAt (T : DT) (parent at_ kid : Nat) (p k : Nd) : DT :=
  (T.put parent (some { p with kids := p.kids.take at_ ++ (kid :: p.kids.drop at_) })).put kid (some { k with up := some parent })
def insert (T : DT) (parent pos kid : Int) : Int × DT :=
  match T.get parent, T.get kid with
  | some p, some k =>
    if p.tag = 0 then (6, T)
    else if kid = 0 ∨ 0 ≤ upI k.up ∨ pos < 0 ∨ (p.kids.length : Int) < pos then (1, T)
    else if T.within parent.toNat kid.toNat = true then (5, T)
    else if T.dep < T.depth parent + 1 + T.height kid then (4, T)
    else (0, T.insertAt parent.toNat pos.toNat kid.toNat p k)
  | _, _ => (2, T)
def remove (T : DT) (id : Int) : Int × DT :=
  match T.get id with
  | none => (2, T)
  | some n => match n.up with
    | none => (1, T)
    | some up => match T.at_ up with
      | none => (1, T)
      | some p => (0, (T.put up (some { p with kids := p.kids.erase id.toNat })).put id.toNat (some { n with up := none }))
end DT
end Go.Proofs.Ytnnjlpkjpbbklaa
