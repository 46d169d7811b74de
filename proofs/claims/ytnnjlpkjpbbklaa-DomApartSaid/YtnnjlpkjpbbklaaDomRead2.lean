/-
  slices.Clone, slices.Index as this program uses them; Kids, Attrs, Index of package dom. Conditions: the tree lies in memory.
-/
import Derived.Test.YtnnjlpkjpbbklaaDomRead
set_option linter.unusedVariables false
set_option linter.unusedSimpArgs false
namespace Go.Proofs.Ytnnjlpkjpbbklaa
open Go.RowKit

theorem infoAttr : (Try.prog.info? 55).map (fun i => (i.zero, i.size, i.bytes)) = some (some (.agg #[.string ByteArray.empty, .string ByteArray.empty]), 2, 32) := by kernel_rfl

/-- A call that hands back a slice of its own. -/
def RetRow (e : TypeId) (size n : Nat) (xs : List Value) (w : World) (r : Ending) (w' : World) : Prop :=
  ∃ v, r = .returned v ∧ w'.ownsRow w.heap.size e size v n xs ∧ Below w.heap.size w w'

set_option maxHeartbeats 400000 in
theorem cloneInt_any {w : World} {v : Value} {n : Nat} {xs : List Value} (h : Row w 3 1 v n xs) (hn : n ≤ 1000000) (h1 : ∀ u ∈ xs, u.oneCell' = true) :
    Calls Try.prog 114 #[v] w (RetRow 3 1 n xs w) := by
  have heq := fun (W : World) (A : Option Addr) (l c : Nat) => Lib.run_eql_slice_nil (P := Try.prog) W 81 3 A l c 0 0 Try.underlying81
  obtain ⟨i0, hi, hz0, hz1, hz2⟩ := info_parts infoInt
  rcases h.2 with ⟨rfl, h0⟩ | ⟨g, cap, cur, rfl, _, hg, hc, hm, hs, ht⟩
  · subst h0
    have hx : xs = [] := List.eq_nil_of_length_eq_zero (by simpa using h.1)
    subst hx
    clear h
    go_enter Try.func114, Try.ntmps114
    go_wp2_with fail
    go_ret
    exact ⟨_, rfl, World.ownsRow_nil _ _ _ _, Below.refl _ _⟩
  · have hcells := h.cells (g := g) rfl
    have hlt := (h.lt g rfl).2
    have hl := h.1
    have HH := Lib.hid (And.intro hcells (And.intro hl h1))
    clear hcells hl h1 h hs ht hg
    go_enter Try.func114, Try.ntmps114
    go_wp2_with (at_builtin; refine wpList_append_own _ rfl (.tmp 5) (.tmp 6) 81 rfl w.heap.size 3 i0 (.int .i64 0) 1 8 Try.underlying81 hi hz0 hz1 hz2 rfl (by decide) (.slice (some ⟨w.heap.size, 0, none⟩) 0 0) 0 [] rfl ?own ⟨g, 0, none⟩ n cap xs rfl ?c1 ?c2 ?c3 ?c4 ?c5 ?c6 ?grow)
    case own => exact World.ownsRow_made w #[] 0 (Nat.le_refl _) (Nat.zero_le _) (by simp)
    case c1 => exact HH.out.2.1
    case c2 =>
      intro j u hu
      have := HH.out.1 j u hu
      rw [Addr.add_lit] at this ⊢
      rw [World.cell?_alloc_lt _ _ _ hlt]
      exact this
    case c3 => exact HH.out.2.2
    case c4 => unfold maxLen; omega
    case c5 => omega
    case c6 => simp
    case grow =>
      intro v' w' hown hgrow hnil
      have hbel : Below w.heap.size w w' := ((Below.refl _ _).alloc (Nat.le_refl _) _).grown hgrow (by simp) (fun k h => by simp [Value.ownBlock] at h; omega)
      have HO := Lib.hid (And.intro hown hbel)
      clear hown hgrow hnil hbel
      go_wp2_with fail
      go_ret
      exact ⟨_, rfl, by simpa using HO.out.1, HO.out.2⟩

set_option maxHeartbeats 400000 in
theorem cloneAttr_any {w : World} {v : Value} {n : Nat} {xs : List Value} (h : Row w 55 2 v n xs) (hn : n ≤ 1000000) (h1 : ∀ u ∈ xs, u.oneCell' = true) :
    Calls Try.prog 113 #[v] w (RetRow 55 2 n xs w) := by
  have heq := fun (W : World) (A : Option Addr) (l c : Nat) => Lib.run_eql_slice_nil (P := Try.prog) W 38 55 A l c 0 0 Try.underlying38
  obtain ⟨i0, hi, hz0, hz1, hz2⟩ := info_parts infoAttr
  rcases h.2 with ⟨rfl, h0⟩ | ⟨g, cap, cur, rfl, _, hg, hc, hm, hs, ht⟩
  · subst h0
    have hx : xs = [] := List.eq_nil_of_length_eq_zero (by simpa using h.1)
    subst hx
    clear h
    go_enter Try.func113, Try.ntmps113
    go_wp2_with fail
    go_ret
    exact ⟨_, rfl, World.ownsRow_nil _ _ _ _, Below.refl _ _⟩
  · have hcells := h.cells (g := g) rfl
    have hlt := (h.lt g rfl).2
    have hl := h.1
    have HH := Lib.hid (And.intro hcells (And.intro hl h1))
    clear hcells hl h1 h hs ht hg
    go_enter Try.func113, Try.ntmps113
    go_wp2_with (at_builtin; refine wpList_append_own _ rfl (.tmp 5) (.tmp 6) 38 rfl w.heap.size 55 i0 (.agg #[.string ByteArray.empty, .string ByteArray.empty]) 2 32 Try.underlying38 hi hz0 hz1 hz2 rfl (by decide) (.slice (some ⟨w.heap.size, 0, none⟩) 0 0) 0 [] rfl ?own ⟨g, 0, none⟩ n cap xs rfl ?c1 ?c2 ?c3 ?c4 ?c5 ?c6 ?grow)
    case own => exact World.ownsRow_made w #[] 0 (Nat.le_refl _) (Nat.zero_le _) (by simp)
    case c1 => exact HH.out.2.1
    case c2 =>
      intro j u hu
      have := HH.out.1 j u hu
      rw [Addr.add_lit] at this ⊢
      rw [World.cell?_alloc_lt _ _ _ hlt]
      exact this
    case c3 => exact HH.out.2.2
    case c4 => unfold maxLen; omega
    case c5 => omega
    case c6 => simp
    case grow =>
      intro v' w' hown hgrow hnil
      have hbel : Below w.heap.size w w' := ((Below.refl _ _).alloc (Nat.le_refl _) _).grown hgrow (by simp) (fun k h => by simp [Value.ownBlock] at h; omega)
      have HO := Lib.hid (And.intro hown hbel)
      clear hown hgrow hnil hbel
      go_wp2_with fail
      go_ret
      exact ⟨_, rfl, by simpa using HO.out.1, HO.out.2⟩

theorem kidCells_one (l : List Nat) : ∀ u ∈ kidCells l, u.oneCell' = true := by
  intro u hu
  obtain ⟨k, _, rfl⟩ := List.mem_map.1 hu
  rfl
theorem attrCells_one (l : List (Bytes × Bytes)) : ∀ u ∈ attrCells l, u.oneCell' = true := by
  intro u hu
  obtain ⟨a, _, hu⟩ := List.mem_flatMap.1 hu
  simp at hu
  rcases hu with rfl | rfl <;> rfl
end Go.Proofs.Ytnnjlpkjpbbklaa
