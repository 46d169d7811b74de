/-
  NARROWER THAN 'FOR EVERY INPUT', by the rows' own cells (each row's printed sentence says how): DomApart: loops · DomGrafts: loops · DomBack: loops · DomSound: loops · DomPlays: loops · OrderTotal: loops · OrderNodes: loops · OrderPlaces: loops · OrderBack: loops · OrderGoes: loops.
  DERIVED. THE GIVEN ROWS OF THIS SEAT. 16 by the template 'for every input the law returns true; each argument reads behind the call as it read before'; 0 by the template 'total and deterministic' (their statements: YtnnjlpkjpbbklaaTotals.lean).
  GIVEN WITH THE SEED: the statements are not yours to turn. If you find one false, say at which input.
  Laid BY PROGRAM, IN A SANDBOX (cutbox-rows.mjs): the forced cells as the released guide's own fill.sh prints them over the translation 9b41e7de1631684a… (all of the seat's roots in one cut). By AI agents, Wed Nov 11 2026. No macro, syntax, notation, axiom, sorry.
-/
import Derived.Test.YtnnjlpkjpbbklaaChecked
import GoSem.Claim
import GoSem.ClaimJoined
import GoSem.ClaimMapViews
import Derived.JoinedTies
import Derived.KernelRfl
namespace Go.Proofs.Ytnnjlpkjpbbklaa
/- THE CELL 'sum', in the pinned program and in every row, IS THE sha256 OF THE DUMP (.gsa) THAT YtnnjlpkjpbbklaaProg.lean LOADS. Nothing in Lean hashes anything: it is a label: what it is worth is what the hold of that sum in a sandbox is worth. -/
noncomputable def Try.pinned : Pinned := { name := "ytnnjlpkjpbbklaa", sum := "9b41e7de1631684aab448f924c6cfc61790aa077a1580fe31a1609e91e030904", checked := Try.checked }
namespace Rows
def none {H : Type} : Left H := { results := [], args := [] }

/-- 'quillworklaw10.PointsOrder': WHATEVER THE INPUT: true; the input reads as it did. -/
def pointsOrderSpec : ChangeSpec := { name := "pointsOrder", fn := fun _ => fun
  | [d1, d2, d3, d4, d5, d6] => { results := [.lit (.bool true)], args := [d1, d2, d3, d4, d5, d6] }
  | _ => none }
def pointsOrderRow : OpenClaim := { program := "ytnnjlpkjpbbklaa", sum := "9b41e7de1631684aab448f924c6cfc61790aa077a1580fe31a1609e91e030904", func := "quillwork/quillworklaw10.PointsOrder", spec := "pointsOrder", unfollowed := true, recurses := true, apart := false }
def PointsOrderSaid : Prop := pointsOrderRow.holds Try.pinned (OpenSpec.ofChange pointsOrderSpec)

/-- ITS FALSE NEIGHBOUR: 'it returns false'. Refute it at one input. -/
def pointsOrderWrong : ChangeSpec := { name := "pointsOrder", fn := fun _ => fun
  | [d1, d2, d3, d4, d5, d6] => { results := [.lit (.bool false)], args := [d1, d2, d3, d4, d5, d6] }
  | _ => none }
def PointsOrderWrongFalsely : Prop := pointsOrderRow.holds Try.pinned (OpenSpec.ofChange pointsOrderWrong)

/-- 'quillworklaw10.PointsMoved': WHATEVER THE INPUT: true; the input reads as it did. -/
def pointsMovedSpec : ChangeSpec := { name := "pointsMoved", fn := fun _ => fun
  | [d1, d2, d3, d4] => { results := [.lit (.bool true)], args := [d1, d2, d3, d4] }
  | _ => none }
def pointsMovedRow : OpenClaim := { program := "ytnnjlpkjpbbklaa", sum := "9b41e7de1631684aab448f924c6cfc61790aa077a1580fe31a1609e91e030904", func := "quillwork/quillworklaw10.PointsMoved", spec := "pointsMoved", unfollowed := true, recurses := true, apart := false }
def PointsMovedSaid : Prop := pointsMovedRow.holds Try.pinned (OpenSpec.ofChange pointsMovedSpec)

/-- ITS FALSE NEIGHBOUR: 'it returns false'. Refute it at one input. -/
def pointsMovedWrong : ChangeSpec := { name := "pointsMoved", fn := fun _ => fun
  | [d1, d2, d3, d4] => { results := [.lit (.bool false)], args := [d1, d2, d3, d4] }
  | _ => none }
def PointsMovedWrongFalsely : Prop := pointsMovedRow.holds Try.pinned (OpenSpec.ofChange pointsMovedWrong)

/-- 'quillworklaw10.PointsBack': WHATEVER THE INPUT: true; the input reads as it did. -/
def pointsBackSpec : ChangeSpec := { name := "pointsBack", fn := fun _ => fun
  | [d1, d2, d3, d4, d5, d6] => { results := [.lit (.bool true)], args := [d1, d2, d3, d4, d5, d6] }
  | _ => none }
def pointsBackRow : OpenClaim := { program := "ytnnjlpkjpbbklaa", sum := "9b41e7de1631684aab448f924c6cfc61790aa077a1580fe31a1609e91e030904", func := "quillwork/quillworklaw10.PointsBack", spec := "pointsBack", unfollowed := true, recurses := true, apart := false }
def PointsBackSaid : Prop := pointsBackRow.holds Try.pinned (OpenSpec.ofChange pointsBackSpec)

/-- ITS FALSE NEIGHBOUR: 'it returns false'. Refute it at one input. -/
def pointsBackWrong : ChangeSpec := { name := "pointsBack", fn := fun _ => fun
  | [d1, d2, d3, d4, d5, d6] => { results := [.lit (.bool false)], args := [d1, d2, d3, d4, d5, d6] }
  | _ => none }
def PointsBackWrongFalsely : Prop := pointsBackRow.holds Try.pinned (OpenSpec.ofChange pointsBackWrong)

/-- 'quillworklaw08.DomApart': WHATEVER THE INPUT: true; the input reads as it did. -/
def domApartSpec : ChangeSpec := { name := "domApart", fn := fun _ => fun
  | [d1, d2, d3, d4] => { results := [.lit (.bool true)], args := [d1, d2, d3, d4] }
  | _ => none }
def domApartRow : OpenClaim := { program := "ytnnjlpkjpbbklaa", sum := "9b41e7de1631684aab448f924c6cfc61790aa077a1580fe31a1609e91e030904", func := "quillwork/quillworklaw08.DomApart", spec := "domApart", inPlace := ["slices.overlaps[int]"], unfollowed := true, recurses := true, loops := true, apart := false }
def DomApartSaid : Prop := domApartRow.holds Try.pinned (OpenSpec.ofChange domApartSpec)

/-- ITS FALSE NEIGHBOUR: 'it returns false'. Refute it at one input. -/
def domApartWrong : ChangeSpec := { name := "domApart", fn := fun _ => fun
  | [d1, d2, d3, d4] => { results := [.lit (.bool false)], args := [d1, d2, d3, d4] }
  | _ => none }
def DomApartWrongFalsely : Prop := domApartRow.holds Try.pinned (OpenSpec.ofChange domApartWrong)

/-- 'quillworklaw08.DomGrafts': WHATEVER THE INPUT: true; the input reads as it did. -/
def domGraftsSpec : ChangeSpec := { name := "domGrafts", fn := fun _ => fun
  | [d1, d2, d3, d4, d5, d6] => { results := [.lit (.bool true)], args := [d1, d2, d3, d4, d5, d6] }
  | _ => none }
def domGraftsRow : OpenClaim := { program := "ytnnjlpkjpbbklaa", sum := "9b41e7de1631684aab448f924c6cfc61790aa077a1580fe31a1609e91e030904", func := "quillwork/quillworklaw08.DomGrafts", spec := "domGrafts", inPlace := ["slices.overlaps[int]"], unfollowed := true, recurses := true, loops := true, apart := false }
def DomGraftsSaid : Prop := domGraftsRow.holds Try.pinned (OpenSpec.ofChange domGraftsSpec)

/-- ITS FALSE NEIGHBOUR: 'it returns false'. Refute it at one input. -/
def domGraftsWrong : ChangeSpec := { name := "domGrafts", fn := fun _ => fun
  | [d1, d2, d3, d4, d5, d6] => { results := [.lit (.bool false)], args := [d1, d2, d3, d4, d5, d6] }
  | _ => none }
def DomGraftsWrongFalsely : Prop := domGraftsRow.holds Try.pinned (OpenSpec.ofChange domGraftsWrong)

/-- 'quillworklaw08.DomBack': WHATEVER THE INPUT: true; the input reads as it did. -/
def domBackSpec : ChangeSpec := { name := "domBack", fn := fun _ => fun
  | [d1, d2, d3, d4, d5, d6] => { results := [.lit (.bool true)], args := [d1, d2, d3, d4, d5, d6] }
  | _ => none }
def domBackRow : OpenClaim := { program := "ytnnjlpkjpbbklaa", sum := "9b41e7de1631684aab448f924c6cfc61790aa077a1580fe31a1609e91e030904", func := "quillwork/quillworklaw08.DomBack", spec := "domBack", inPlace := ["slices.overlaps[int]"], unfollowed := true, recurses := true, loops := true, apart := false }
def DomBackSaid : Prop := domBackRow.holds Try.pinned (OpenSpec.ofChange domBackSpec)

/-- ITS FALSE NEIGHBOUR: 'it returns false'. Refute it at one input. -/
def domBackWrong : ChangeSpec := { name := "domBack", fn := fun _ => fun
  | [d1, d2, d3, d4, d5, d6] => { results := [.lit (.bool false)], args := [d1, d2, d3, d4, d5, d6] }
  | _ => none }
def DomBackWrongFalsely : Prop := domBackRow.holds Try.pinned (OpenSpec.ofChange domBackWrong)

/-- 'quillworklaw08.DomSound': WHATEVER THE INPUT: true; the input reads as it did. -/
def domSoundSpec : ChangeSpec := { name := "domSound", fn := fun _ => fun
  | [d1, d2, d3] => { results := [.lit (.bool true)], args := [d1, d2, d3] }
  | _ => none }
def domSoundRow : OpenClaim := { program := "ytnnjlpkjpbbklaa", sum := "9b41e7de1631684aab448f924c6cfc61790aa077a1580fe31a1609e91e030904", func := "quillwork/quillworklaw08.DomSound", spec := "domSound", inPlace := ["slices.overlaps[int]"], unfollowed := true, recurses := true, loops := true, apart := false }
def DomSoundSaid : Prop := domSoundRow.holds Try.pinned (OpenSpec.ofChange domSoundSpec)

/-- ITS FALSE NEIGHBOUR: 'it returns false'. Refute it at one input. -/
def domSoundWrong : ChangeSpec := { name := "domSound", fn := fun _ => fun
  | [d1, d2, d3] => { results := [.lit (.bool false)], args := [d1, d2, d3] }
  | _ => none }
def DomSoundWrongFalsely : Prop := domSoundRow.holds Try.pinned (OpenSpec.ofChange domSoundWrong)

/-- 'quillworklaw08.DomPlays': WHATEVER THE INPUT: true; the input reads as it did. -/
def domPlaysSpec : ChangeSpec := { name := "domPlays", fn := fun _ => fun
  | [d1, d2, d3] => { results := [.lit (.bool true)], args := [d1, d2, d3] }
  | _ => none }
def domPlaysRow : OpenClaim := { program := "ytnnjlpkjpbbklaa", sum := "9b41e7de1631684aab448f924c6cfc61790aa077a1580fe31a1609e91e030904", func := "quillwork/quillworklaw08.DomPlays", spec := "domPlays", inPlace := ["slices.overlaps[int]"], unfollowed := true, recurses := true, loops := true, apart := false }
def DomPlaysSaid : Prop := domPlaysRow.holds Try.pinned (OpenSpec.ofChange domPlaysSpec)

/-- ITS FALSE NEIGHBOUR: 'it returns false'. Refute it at one input. -/
def domPlaysWrong : ChangeSpec := { name := "domPlays", fn := fun _ => fun
  | [d1, d2, d3] => { results := [.lit (.bool false)], args := [d1, d2, d3] }
  | _ => none }
def DomPlaysWrongFalsely : Prop := domPlaysRow.holds Try.pinned (OpenSpec.ofChange domPlaysWrong)

/-- 'quillworklaw08.DomNobody': WHATEVER THE INPUT: true; the input reads as it did. -/
def domNobodySpec : ChangeSpec := { name := "domNobody", fn := fun _ => fun
  | [] => { results := [.lit (.bool true)], args := [] }
  | _ => none }
def domNobodyRow : OpenClaim := { program := "ytnnjlpkjpbbklaa", sum := "9b41e7de1631684aab448f924c6cfc61790aa077a1580fe31a1609e91e030904", func := "quillwork/quillworklaw08.DomNobody", spec := "domNobody", inPlace := ["slices.overlaps[int]"], unfollowed := true, recurses := true, apart := false }
def DomNobodySaid : Prop := domNobodyRow.holds Try.pinned (OpenSpec.ofChange domNobodySpec)

/-- ITS FALSE NEIGHBOUR: 'it returns false'. Refute it at one input. -/
def domNobodyWrong : ChangeSpec := { name := "domNobody", fn := fun _ => fun
  | [] => { results := [.lit (.bool false)], args := [] }
  | _ => none }
def DomNobodyWrongFalsely : Prop := domNobodyRow.holds Try.pinned (OpenSpec.ofChange domNobodyWrong)

/-- 'quillworklaw09.OrderNobody': WHATEVER THE INPUT: true; the input reads as it did. -/
def orderNobodySpec : ChangeSpec := { name := "orderNobody", fn := fun _ => fun
  | [d1, d2, d3] => { results := [.lit (.bool true)], args := [d1, d2, d3] }
  | _ => none }
def orderNobodyRow : OpenClaim := { program := "ytnnjlpkjpbbklaa", sum := "9b41e7de1631684aab448f924c6cfc61790aa077a1580fe31a1609e91e030904", func := "quillwork/quillworklaw09.OrderNobody", spec := "orderNobody", inPlace := ["slices.overlaps[int]"], unfollowed := true, recurses := true, apart := false }
def OrderNobodySaid : Prop := orderNobodyRow.holds Try.pinned (OpenSpec.ofChange orderNobodySpec)

/-- ITS FALSE NEIGHBOUR: 'it returns false'. Refute it at one input. -/
def orderNobodyWrong : ChangeSpec := { name := "orderNobody", fn := fun _ => fun
  | [d1, d2, d3] => { results := [.lit (.bool false)], args := [d1, d2, d3] }
  | _ => none }
def OrderNobodyWrongFalsely : Prop := orderNobodyRow.holds Try.pinned (OpenSpec.ofChange orderNobodyWrong)

/-- 'quillworklaw09.OrderTotal': WHATEVER THE INPUT: true; the input reads as it did. -/
def orderTotalSpec : ChangeSpec := { name := "orderTotal", fn := fun _ => fun
  | [d1, d2, d3, d4, d5, d6] => { results := [.lit (.bool true)], args := [d1, d2, d3, d4, d5, d6] }
  | _ => none }
def orderTotalRow : OpenClaim := { program := "ytnnjlpkjpbbklaa", sum := "9b41e7de1631684aab448f924c6cfc61790aa077a1580fe31a1609e91e030904", func := "quillwork/quillworklaw09.OrderTotal", spec := "orderTotal", inPlace := ["slices.overlaps[int]"], unfollowed := true, recurses := true, loops := true, apart := false }
def OrderTotalSaid : Prop := orderTotalRow.holds Try.pinned (OpenSpec.ofChange orderTotalSpec)

/-- ITS FALSE NEIGHBOUR: 'it returns false'. Refute it at one input. -/
def orderTotalWrong : ChangeSpec := { name := "orderTotal", fn := fun _ => fun
  | [d1, d2, d3, d4, d5, d6] => { results := [.lit (.bool false)], args := [d1, d2, d3, d4, d5, d6] }
  | _ => none }
def OrderTotalWrongFalsely : Prop := orderTotalRow.holds Try.pinned (OpenSpec.ofChange orderTotalWrong)

/-- 'quillworklaw09.OrderNodes': WHATEVER THE INPUT: true; the input reads as it did. -/
def orderNodesSpec : ChangeSpec := { name := "orderNodes", fn := fun _ => fun
  | [d1, d2, d3, d4, d5] => { results := [.lit (.bool true)], args := [d1, d2, d3, d4, d5] }
  | _ => none }
def orderNodesRow : OpenClaim := { program := "ytnnjlpkjpbbklaa", sum := "9b41e7de1631684aab448f924c6cfc61790aa077a1580fe31a1609e91e030904", func := "quillwork/quillworklaw09.OrderNodes", spec := "orderNodes", inPlace := ["slices.overlaps[int]"], unfollowed := true, recurses := true, loops := true, apart := false }
def OrderNodesSaid : Prop := orderNodesRow.holds Try.pinned (OpenSpec.ofChange orderNodesSpec)

/-- ITS FALSE NEIGHBOUR: 'it returns false'. Refute it at one input. -/
def orderNodesWrong : ChangeSpec := { name := "orderNodes", fn := fun _ => fun
  | [d1, d2, d3, d4, d5] => { results := [.lit (.bool false)], args := [d1, d2, d3, d4, d5] }
  | _ => none }
def OrderNodesWrongFalsely : Prop := orderNodesRow.holds Try.pinned (OpenSpec.ofChange orderNodesWrong)

/-- 'quillworklaw09.OrderPlaces': WHATEVER THE INPUT: true; the input reads as it did. -/
def orderPlacesSpec : ChangeSpec := { name := "orderPlaces", fn := fun _ => fun
  | [d1, d2, d3, d4, d5, d6] => { results := [.lit (.bool true)], args := [d1, d2, d3, d4, d5, d6] }
  | _ => none }
def orderPlacesRow : OpenClaim := { program := "ytnnjlpkjpbbklaa", sum := "9b41e7de1631684aab448f924c6cfc61790aa077a1580fe31a1609e91e030904", func := "quillwork/quillworklaw09.OrderPlaces", spec := "orderPlaces", inPlace := ["slices.overlaps[int]"], unfollowed := true, recurses := true, loops := true, apart := false }
def OrderPlacesSaid : Prop := orderPlacesRow.holds Try.pinned (OpenSpec.ofChange orderPlacesSpec)

/-- ITS FALSE NEIGHBOUR: 'it returns false'. Refute it at one input. -/
def orderPlacesWrong : ChangeSpec := { name := "orderPlaces", fn := fun _ => fun
  | [d1, d2, d3, d4, d5, d6] => { results := [.lit (.bool false)], args := [d1, d2, d3, d4, d5, d6] }
  | _ => none }
def OrderPlacesWrongFalsely : Prop := orderPlacesRow.holds Try.pinned (OpenSpec.ofChange orderPlacesWrong)

/-- 'quillworklaw09.OrderBack': WHATEVER THE INPUT: true; the input reads as it did. -/
def orderBackSpec : ChangeSpec := { name := "orderBack", fn := fun _ => fun
  | [d1, d2, d3, d4] => { results := [.lit (.bool true)], args := [d1, d2, d3, d4] }
  | _ => none }
def orderBackRow : OpenClaim := { program := "ytnnjlpkjpbbklaa", sum := "9b41e7de1631684aab448f924c6cfc61790aa077a1580fe31a1609e91e030904", func := "quillwork/quillworklaw09.OrderBack", spec := "orderBack", inPlace := ["slices.overlaps[int]"], unfollowed := true, recurses := true, loops := true, apart := false }
def OrderBackSaid : Prop := orderBackRow.holds Try.pinned (OpenSpec.ofChange orderBackSpec)

/-- ITS FALSE NEIGHBOUR: 'it returns false'. Refute it at one input. -/
def orderBackWrong : ChangeSpec := { name := "orderBack", fn := fun _ => fun
  | [d1, d2, d3, d4] => { results := [.lit (.bool false)], args := [d1, d2, d3, d4] }
  | _ => none }
def OrderBackWrongFalsely : Prop := orderBackRow.holds Try.pinned (OpenSpec.ofChange orderBackWrong)

/-- 'quillworklaw09.OrderGoes': WHATEVER THE INPUT: true; the input reads as it did. -/
def orderGoesSpec : ChangeSpec := { name := "orderGoes", fn := fun _ => fun
  | [d1, d2, d3, d4] => { results := [.lit (.bool true)], args := [d1, d2, d3, d4] }
  | _ => none }
def orderGoesRow : OpenClaim := { program := "ytnnjlpkjpbbklaa", sum := "9b41e7de1631684aab448f924c6cfc61790aa077a1580fe31a1609e91e030904", func := "quillwork/quillworklaw09.OrderGoes", spec := "orderGoes", inPlace := ["slices.overlaps[int]"], unfollowed := true, recurses := true, loops := true, apart := false }
def OrderGoesSaid : Prop := orderGoesRow.holds Try.pinned (OpenSpec.ofChange orderGoesSpec)

/-- ITS FALSE NEIGHBOUR: 'it returns false'. Refute it at one input. -/
def orderGoesWrong : ChangeSpec := { name := "orderGoes", fn := fun _ => fun
  | [d1, d2, d3, d4] => { results := [.lit (.bool false)], args := [d1, d2, d3, d4] }
  | _ => none }
def OrderGoesWrongFalsely : Prop := orderGoesRow.holds Try.pinned (OpenSpec.ofChange orderGoesWrong)

/-- 'quillworklaw11.LiveNobody': WHATEVER THE INPUT: true; the input reads as it did. -/
def liveNobodySpec : ChangeSpec := { name := "liveNobody", fn := fun _ => fun
  | [] => { results := [.lit (.bool true)], args := [] }
  | _ => none }
def liveNobodyRow : OpenClaim := { program := "ytnnjlpkjpbbklaa", sum := "9b41e7de1631684aab448f924c6cfc61790aa077a1580fe31a1609e91e030904", func := "quillwork/quillworklaw11.LiveNobody", spec := "liveNobody", inPlace := ["slices.overlaps[int]"], unfollowed := true, recurses := true, apart := false }
def LiveNobodySaid : Prop := liveNobodyRow.holds Try.pinned (OpenSpec.ofChange liveNobodySpec)

/-- ITS FALSE NEIGHBOUR: 'it returns false'. Refute it at one input. -/
def liveNobodyWrong : ChangeSpec := { name := "liveNobody", fn := fun _ => fun
  | [] => { results := [.lit (.bool false)], args := [] }
  | _ => none }
def LiveNobodyWrongFalsely : Prop := liveNobodyRow.holds Try.pinned (OpenSpec.ofChange liveNobodyWrong)

/- THE SECOND FORM. 'bulk': how many values and letters a reading holds, each counted each time it is reached (what is shared counts as often as it is met; a slice's spare places count too). A statement '..UptoSaid' is the law's where the arguments, and the package variables that the reading takes, are together of bulk at most 1048576: NARROWER than '..Said'. Prove '..Said' where nothing that the law and all that it calls make is longer than what came in: it says more and counts as full. Else prove '..UptoSaid'. A law counts once. -/
mutual
def uptoBulk {H : Type} : DataW H → Nat
  | .lit (.string bytes) => bytes.length + 1
  | .lit _ => 1
  | .nil => 1
  | .ptr d => uptoBulk d + 1
  | .slice elems spare => uptoBulkAll elems + uptoBulkAll spare + 1
  | .agg parts => uptoBulkAll parts + 1
  | .iface _ d => uptoBulk d + 1
  | .map entries => uptoBulkEntries entries + 1
  | .held _ => 1
def uptoBulkAll {H : Type} : List (DataW H) → Nat
  | [] => 0
  | d :: r => uptoBulk d + uptoBulkAll r
def uptoBulkEntries {H : Type} : List (Lit × DataW H) → Nat
  | [] => 0
  | x :: r => uptoBulkEntry x + uptoBulkEntries r
def uptoBulkEntry {H : Type} : Lit × DataW H → Nat
  | (.string bytes, d) => bytes.length + uptoBulk d + 1
  | (_, d) => uptoBulk d + 1
 end
def uptoSmall : (H : Type) → List (DataW H) → Bool := fun _ ds => decide (uptoBulkAll ds ≤ 1048576)
def OpenSpec.upto (s : _root_.Go.ChangeSpec) : _root_.Go.OpenSpec := { _root_.Go.OpenSpec.ofChange s with cond := some uptoSmall }

/-- 'quillworklaw10.PointsOrder', WHERE WHAT IT READS IS OF BULK AT MOST 1048576: true; the input reads as it did. -/
def pointsOrderUptoRow : OpenClaim := { program := "ytnnjlpkjpbbklaa", sum := "9b41e7de1631684aab448f924c6cfc61790aa077a1580fe31a1609e91e030904", func := "quillwork/quillworklaw10.PointsOrder", spec := "pointsOrder", unfollowed := true, recurses := true, apart := false, narrowed := true }
def PointsOrderUptoSaid : Prop := pointsOrderUptoRow.holds Try.pinned (OpenSpec.upto pointsOrderSpec)

/-- 'quillworklaw10.PointsMoved', WHERE WHAT IT READS IS OF BULK AT MOST 1048576: true; the input reads as it did. -/
def pointsMovedUptoRow : OpenClaim := { program := "ytnnjlpkjpbbklaa", sum := "9b41e7de1631684aab448f924c6cfc61790aa077a1580fe31a1609e91e030904", func := "quillwork/quillworklaw10.PointsMoved", spec := "pointsMoved", unfollowed := true, recurses := true, apart := false, narrowed := true }
def PointsMovedUptoSaid : Prop := pointsMovedUptoRow.holds Try.pinned (OpenSpec.upto pointsMovedSpec)

/-- 'quillworklaw10.PointsBack', WHERE WHAT IT READS IS OF BULK AT MOST 1048576: true; the input reads as it did. -/
def pointsBackUptoRow : OpenClaim := { program := "ytnnjlpkjpbbklaa", sum := "9b41e7de1631684aab448f924c6cfc61790aa077a1580fe31a1609e91e030904", func := "quillwork/quillworklaw10.PointsBack", spec := "pointsBack", unfollowed := true, recurses := true, apart := false, narrowed := true }
def PointsBackUptoSaid : Prop := pointsBackUptoRow.holds Try.pinned (OpenSpec.upto pointsBackSpec)

/-- 'quillworklaw08.DomApart', WHERE WHAT IT READS IS OF BULK AT MOST 1048576: true; the input reads as it did. -/
def domApartUptoRow : OpenClaim := { program := "ytnnjlpkjpbbklaa", sum := "9b41e7de1631684aab448f924c6cfc61790aa077a1580fe31a1609e91e030904", func := "quillwork/quillworklaw08.DomApart", spec := "domApart", inPlace := ["slices.overlaps[int]"], unfollowed := true, recurses := true, loops := true, apart := false, narrowed := true }
def DomApartUptoSaid : Prop := domApartUptoRow.holds Try.pinned (OpenSpec.upto domApartSpec)

/-- 'quillworklaw08.DomGrafts', WHERE WHAT IT READS IS OF BULK AT MOST 1048576: true; the input reads as it did. -/
def domGraftsUptoRow : OpenClaim := { program := "ytnnjlpkjpbbklaa", sum := "9b41e7de1631684aab448f924c6cfc61790aa077a1580fe31a1609e91e030904", func := "quillwork/quillworklaw08.DomGrafts", spec := "domGrafts", inPlace := ["slices.overlaps[int]"], unfollowed := true, recurses := true, loops := true, apart := false, narrowed := true }
def DomGraftsUptoSaid : Prop := domGraftsUptoRow.holds Try.pinned (OpenSpec.upto domGraftsSpec)

/-- 'quillworklaw08.DomBack', WHERE WHAT IT READS IS OF BULK AT MOST 1048576: true; the input reads as it did. -/
def domBackUptoRow : OpenClaim := { program := "ytnnjlpkjpbbklaa", sum := "9b41e7de1631684aab448f924c6cfc61790aa077a1580fe31a1609e91e030904", func := "quillwork/quillworklaw08.DomBack", spec := "domBack", inPlace := ["slices.overlaps[int]"], unfollowed := true, recurses := true, loops := true, apart := false, narrowed := true }
def DomBackUptoSaid : Prop := domBackUptoRow.holds Try.pinned (OpenSpec.upto domBackSpec)

/-- 'quillworklaw08.DomSound', WHERE WHAT IT READS IS OF BULK AT MOST 1048576: true; the input reads as it did. -/
def domSoundUptoRow : OpenClaim := { program := "ytnnjlpkjpbbklaa", sum := "9b41e7de1631684aab448f924c6cfc61790aa077a1580fe31a1609e91e030904", func := "quillwork/quillworklaw08.DomSound", spec := "domSound", inPlace := ["slices.overlaps[int]"], unfollowed := true, recurses := true, loops := true, apart := false, narrowed := true }
def DomSoundUptoSaid : Prop := domSoundUptoRow.holds Try.pinned (OpenSpec.upto domSoundSpec)

/-- 'quillworklaw08.DomPlays', WHERE WHAT IT READS IS OF BULK AT MOST 1048576: true; the input reads as it did. -/
def domPlaysUptoRow : OpenClaim := { program := "ytnnjlpkjpbbklaa", sum := "9b41e7de1631684aab448f924c6cfc61790aa077a1580fe31a1609e91e030904", func := "quillwork/quillworklaw08.DomPlays", spec := "domPlays", inPlace := ["slices.overlaps[int]"], unfollowed := true, recurses := true, loops := true, apart := false, narrowed := true }
def DomPlaysUptoSaid : Prop := domPlaysUptoRow.holds Try.pinned (OpenSpec.upto domPlaysSpec)

/-- 'quillworklaw08.DomNobody', WHERE WHAT IT READS IS OF BULK AT MOST 1048576: true; the input reads as it did. -/
def domNobodyUptoRow : OpenClaim := { program := "ytnnjlpkjpbbklaa", sum := "9b41e7de1631684aab448f924c6cfc61790aa077a1580fe31a1609e91e030904", func := "quillwork/quillworklaw08.DomNobody", spec := "domNobody", inPlace := ["slices.overlaps[int]"], unfollowed := true, recurses := true, apart := false, narrowed := true }
def DomNobodyUptoSaid : Prop := domNobodyUptoRow.holds Try.pinned (OpenSpec.upto domNobodySpec)

/-- 'quillworklaw09.OrderNobody', WHERE WHAT IT READS IS OF BULK AT MOST 1048576: true; the input reads as it did. -/
def orderNobodyUptoRow : OpenClaim := { program := "ytnnjlpkjpbbklaa", sum := "9b41e7de1631684aab448f924c6cfc61790aa077a1580fe31a1609e91e030904", func := "quillwork/quillworklaw09.OrderNobody", spec := "orderNobody", inPlace := ["slices.overlaps[int]"], unfollowed := true, recurses := true, apart := false, narrowed := true }
def OrderNobodyUptoSaid : Prop := orderNobodyUptoRow.holds Try.pinned (OpenSpec.upto orderNobodySpec)

/-- 'quillworklaw09.OrderTotal', WHERE WHAT IT READS IS OF BULK AT MOST 1048576: true; the input reads as it did. -/
def orderTotalUptoRow : OpenClaim := { program := "ytnnjlpkjpbbklaa", sum := "9b41e7de1631684aab448f924c6cfc61790aa077a1580fe31a1609e91e030904", func := "quillwork/quillworklaw09.OrderTotal", spec := "orderTotal", inPlace := ["slices.overlaps[int]"], unfollowed := true, recurses := true, loops := true, apart := false, narrowed := true }
def OrderTotalUptoSaid : Prop := orderTotalUptoRow.holds Try.pinned (OpenSpec.upto orderTotalSpec)

/-- 'quillworklaw09.OrderNodes', WHERE WHAT IT READS IS OF BULK AT MOST 1048576: true; the input reads as it did. -/
def orderNodesUptoRow : OpenClaim := { program := "ytnnjlpkjpbbklaa", sum := "9b41e7de1631684aab448f924c6cfc61790aa077a1580fe31a1609e91e030904", func := "quillwork/quillworklaw09.OrderNodes", spec := "orderNodes", inPlace := ["slices.overlaps[int]"], unfollowed := true, recurses := true, loops := true, apart := false, narrowed := true }
def OrderNodesUptoSaid : Prop := orderNodesUptoRow.holds Try.pinned (OpenSpec.upto orderNodesSpec)

/-- 'quillworklaw09.OrderPlaces', WHERE WHAT IT READS IS OF BULK AT MOST 1048576: true; the input reads as it did. -/
def orderPlacesUptoRow : OpenClaim := { program := "ytnnjlpkjpbbklaa", sum := "9b41e7de1631684aab448f924c6cfc61790aa077a1580fe31a1609e91e030904", func := "quillwork/quillworklaw09.OrderPlaces", spec := "orderPlaces", inPlace := ["slices.overlaps[int]"], unfollowed := true, recurses := true, loops := true, apart := false, narrowed := true }
def OrderPlacesUptoSaid : Prop := orderPlacesUptoRow.holds Try.pinned (OpenSpec.upto orderPlacesSpec)

/-- 'quillworklaw09.OrderBack', WHERE WHAT IT READS IS OF BULK AT MOST 1048576: true; the input reads as it did. -/
def orderBackUptoRow : OpenClaim := { program := "ytnnjlpkjpbbklaa", sum := "9b41e7de1631684aab448f924c6cfc61790aa077a1580fe31a1609e91e030904", func := "quillwork/quillworklaw09.OrderBack", spec := "orderBack", inPlace := ["slices.overlaps[int]"], unfollowed := true, recurses := true, loops := true, apart := false, narrowed := true }
def OrderBackUptoSaid : Prop := orderBackUptoRow.holds Try.pinned (OpenSpec.upto orderBackSpec)

/-- 'quillworklaw09.OrderGoes', WHERE WHAT IT READS IS OF BULK AT MOST 1048576: true; the input reads as it did. -/
def orderGoesUptoRow : OpenClaim := { program := "ytnnjlpkjpbbklaa", sum := "9b41e7de1631684aab448f924c6cfc61790aa077a1580fe31a1609e91e030904", func := "quillwork/quillworklaw09.OrderGoes", spec := "orderGoes", inPlace := ["slices.overlaps[int]"], unfollowed := true, recurses := true, loops := true, apart := false, narrowed := true }
def OrderGoesUptoSaid : Prop := orderGoesUptoRow.holds Try.pinned (OpenSpec.upto orderGoesSpec)

/-- 'quillworklaw11.LiveNobody', WHERE WHAT IT READS IS OF BULK AT MOST 1048576: true; the input reads as it did. -/
def liveNobodyUptoRow : OpenClaim := { program := "ytnnjlpkjpbbklaa", sum := "9b41e7de1631684aab448f924c6cfc61790aa077a1580fe31a1609e91e030904", func := "quillwork/quillworklaw11.LiveNobody", spec := "liveNobody", inPlace := ["slices.overlaps[int]"], unfollowed := true, recurses := true, apart := false, narrowed := true }
def LiveNobodyUptoSaid : Prop := liveNobodyUptoRow.holds Try.pinned (OpenSpec.upto liveNobodySpec)

end Rows
end Go.Proofs.Ytnnjlpkjpbbklaa
