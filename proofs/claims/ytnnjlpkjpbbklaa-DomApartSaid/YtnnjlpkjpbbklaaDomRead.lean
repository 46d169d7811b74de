/-
  What package dom tells of a tree: get, Has, Tag, Parent, Told, Count. Conditions: the tree lies in memory.
-/
import Derived.Test.YtnnjlpkjpbbklaaRep
import Derived.Test.YtnnjlpkjpbbklaaChecked
set_option linter.unusedVariables false
set_option linter.unusedSimpArgs false
namespace Go.Proofs.Ytnnjlpkjpbbklaa
open Go.RowKit

def nodePtr (G : List (Option NG)) (id : Int) : Value := if id < 0 then .pointer none else ngPtr ((G[id.toNat]?).getD none)

section
variable {w : World} {tb : Nat} {T : DT} {nv : Value} {G : List (Option NG)}
theorem Rep.ptr_some (h : Rep w tb T nv G) {id : Int} {n : Nd} (hn : T.get id = some n) : ∃ g, nodePtr G id = .pointer (some ⟨g.b, 0, none⟩) ∧ NodeRep w g n ∧ G[id.toNat]? = some (some g) := by
  obtain ⟨h0, h1, _⟩ := DT.get_some hn
  obtain ⟨g, hg, hr⟩ := h.node _ n h1
  refine ⟨g, ?_, hr, hg⟩
  unfold nodePtr
  rw [if_neg (by omega), hg]
  rfl
theorem Rep.ptr_none (h : Rep w tb T nv G) {id : Int} (hn : T.get id = none) : nodePtr G id = .pointer none := by
  unfold nodePtr
  split
  · rfl
  · rename_i hid
    have h1 : T.at_ id.toNat = none := by simpa [DT.get, hid] using hn
    by_cases hlt : id.toNat < G.length
    · rw [h.none_ _ hlt h1]; rfl
    · rw [List.getElem?_eq_none (by omega)]; rfl

set_option maxHeartbeats 400000 in
theorem get_any (h : Rep w tb T nv G) (hl : T.nodes.length ≤ 2000) (id : Int) :
    Calls Try.prog 112 #[.pointer (some ⟨tb, 0, none⟩), .int .i64 id] w fun e w' => e = .returned (nodePtr G id) ∧ w = w' := by
  have hc := h.tree.cell
  have hlen := h.len
  by_cases h0 : id < 0
  · have hd : decide (id < 0) = true := by simp [h0]
    have e : nodePtr G id = .pointer none := by simp [nodePtr, h0]
    rw [e]
    clear h e hlen
    go_enter Try.func112, Try.ntmps112
    go_wp2_with fail
    go_ret
    exact ⟨rfl, rfl⟩
  · have hd : decide (id < 0) = false := by simp; omega
    obtain ⟨k, rfl⟩ : ∃ k : Nat, id = k := ⟨id.toNat, by omega⟩
    by_cases h1 : k < G.length
    · obtain ⟨g, cap, hv, hcap, hmax, hg, hcell⟩ := h.row.open_ (by omega)
      have hk := hcell k h1
      have e : nodePtr G (k : Int) = ngPtr ((G[k]?).getD none) := by unfold nodePtr; rw [if_neg (by omega)]; simp
      rw [List.getElem?_map, List.getElem?_eq_getElem h1] at hk
      rw [e, List.getElem?_eq_getElem h1]
      obtain ⟨p, hp⟩ : ∃ p, ngPtr (G[k]) = .pointer p := by cases G[k] <;> exact ⟨_, rfl⟩
      simp only [Option.map_some, hp] at hk
      simp only [Option.getD_some, hp]
      subst hv
      have hn : ((G.length : Nat) : Int) ≤ 2000 := by omega
      have hge : ¬ (G.length ≤ k) := by omega
      clear e hp hcell hlen h
      generalize G.length = n at *
      go_enter Try.func112, Try.ntmps112
      go_wp2_with fail
      go_ret
      exact ⟨rfl, rfl⟩
    · obtain ⟨A, cap, hv, hcap, hmax, hA⟩ := h.row.form
      have e : nodePtr G (k : Int) = .pointer none := by unfold nodePtr; rw [if_neg (by omega), List.getElem?_eq_none (by omega)]; rfl
      rw [e]
      subst hv
      have hn : ((G.length : Nat) : Int) ≤ 2000 := by omega
      have hge : G.length ≤ k := by omega
      generalize G.length = n at *
      clear e hlen h hA
      go_enter Try.func112, Try.ntmps112
      go_wp2_with fail
      go_ret
      exact ⟨rfl, rfl⟩

theorem get_none (h : Rep w tb T nv G) (hl : T.nodes.length ≤ 2000) {id : Int} (hn : T.get id = none) :
    Calls Try.prog 112 #[.pointer (some ⟨tb, 0, none⟩), .int .i64 id] w fun e w' => e = .returned (.pointer none) ∧ w = w' := by
  have := get_any h hl id
  rw [h.ptr_none hn] at this
  exact this
theorem get_some (h : Rep w tb T nv G) (hl : T.nodes.length ≤ 2000) {id : Int} {n : Nd} (hn : T.get id = some n) :
    ∃ g, NodeRep w g n ∧ G[id.toNat]? = some (some g) ∧ Calls Try.prog 112 #[.pointer (some ⟨tb, 0, none⟩), .int .i64 id] w fun e w' => e = .returned (.pointer (some ⟨g.b, 0, none⟩)) ∧ w = w' := by
  obtain ⟨g, e, hr, hg⟩ := h.ptr_some hn
  have := get_any h hl id
  rw [e] at this
  exact ⟨g, hr, hg, this⟩

set_option maxHeartbeats 400000 in
theorem has_any (h : Rep w tb T nv G) (hl : T.nodes.length ≤ 2000) (id : Int) :
    Calls Try.prog 42 #[.pointer (some ⟨tb, 0, none⟩), .int .i64 id] w fun e w' => e = .returned (.bool (T.has id)) ∧ w = w' := by
  cases hn : T.get id with
  | none =>
    have e : T.has id = false := by simp [DT.has, hn]
    have H := Lib.hid (get_none h hl hn)
    rw [e]
    clear h hn e
    go_enter Try.func42, Try.ntmps42
    go_wp2_with (with_reducible refine H.out.mono ?_; rintro e w' ⟨rfl, rfl⟩)
    go_ret
    exact ⟨rfl, rfl⟩
  | some n =>
    have e : T.has id = true := by simp [DT.has, hn]
    obtain ⟨g, hr, _, H⟩ := get_some h hl hn
    have H := Lib.hid H
    rw [e]
    clear h hn e hr
    go_enter Try.func42, Try.ntmps42
    go_wp2_with (with_reducible refine H.out.mono ?_; rintro e w' ⟨rfl, rfl⟩)
    go_ret
    exact ⟨rfl, rfl⟩

set_option maxHeartbeats 400000 in
theorem tag_any (h : Rep w tb T nv G) (hl : T.nodes.length ≤ 2000) (id : Int) :
    Calls Try.prog 61 #[.pointer (some ⟨tb, 0, none⟩), .int .i64 id] w fun e w' => e = .returned (.int .i64 (T.tagOf id)) ∧ w = w' := by
  cases hn : T.get id with
  | none =>
    have e : T.tagOf id = -1 := by simp [DT.tagOf, hn]
    have H := Lib.hid (get_none h hl hn)
    rw [e]
    clear h hn e
    go_enter Try.func61, Try.ntmps61
    go_wp2_with (with_reducible refine H.out.mono ?_; rintro e w' ⟨rfl, rfl⟩)
    go_ret
    exact ⟨rfl, rfl⟩
  | some n =>
    have e : T.tagOf id = n.tag := by simp [DT.tagOf, hn]
    obtain ⟨g, hr, _, H⟩ := get_some h hl hn
    have hc := hr.1.cell
    have H := Lib.hid H
    rw [e]
    clear h hn e hr
    go_enter Try.func61, Try.ntmps61
    go_wp2_with (with_reducible refine H.out.mono ?_; rintro e w' ⟨rfl, rfl⟩)
    go_ret
    exact ⟨rfl, rfl⟩

set_option maxHeartbeats 400000 in
theorem parent_any (h : Rep w tb T nv G) (hl : T.nodes.length ≤ 2000) (id : Int) :
    Calls Try.prog 49 #[.pointer (some ⟨tb, 0, none⟩), .int .i64 id] w fun e w' => e = .returned (.int .i64 (T.upOf id)) ∧ w = w' := by
  cases hn : T.get id with
  | none =>
    have e : T.upOf id = -1 := by simp [DT.upOf, hn]
    have H := Lib.hid (get_none h hl hn)
    rw [e]
    clear h hn e
    go_enter Try.func49, Try.ntmps49
    go_wp2_with (with_reducible refine H.out.mono ?_; rintro e w' ⟨rfl, rfl⟩)
    go_ret
    exact ⟨rfl, rfl⟩
  | some n =>
    have e : T.upOf id = DT.upI n.up := by simp [DT.upOf, hn]
    obtain ⟨g, hr, _, H⟩ := get_some h hl hn
    have hc := hr.1.cell
    have H := Lib.hid H
    rw [e]
    clear h hn e hr
    generalize DT.upI n.up = u at *
    go_enter Try.func49, Try.ntmps49
    go_wp2_with (with_reducible refine H.out.mono ?_; rintro e w' ⟨rfl, rfl⟩)
    go_ret
    exact ⟨rfl, rfl⟩

set_option maxHeartbeats 400000 in
theorem told_any (h : Rep w tb T nv G) (hl : T.nodes.length ≤ 2000) (id : Int) :
    Calls Try.prog 63 #[.pointer (some ⟨tb, 0, none⟩), .int .i64 id] w fun e w' => e = .returned (.string (T.textOf id)) ∧ w = w' := by
  cases hn : T.get id with
  | none =>
    have e : T.textOf id = ByteArray.empty := by simp [DT.textOf, hn]
    have H := Lib.hid (get_none h hl hn)
    rw [e]
    clear h hn e
    go_enter Try.func63, Try.ntmps63
    go_wp2_with (with_reducible refine H.out.mono ?_; rintro e w' ⟨rfl, rfl⟩)
    go_ret
    exact ⟨rfl, rfl⟩
  | some n =>
    have e : T.textOf id = n.text := by simp [DT.textOf, hn]
    obtain ⟨g, hr, _, H⟩ := get_some h hl hn
    have hc := hr.1.cell
    have H := Lib.hid H
    rw [e]
    clear h hn e hr
    go_enter Try.func63, Try.ntmps63
    go_wp2_with (with_reducible refine H.out.mono ?_; rintro e w' ⟨rfl, rfl⟩)
    go_ret
    exact ⟨rfl, rfl⟩

set_option maxHeartbeats 400000 in
theorem count_any (h : Rep w tb T nv G) :
    Calls Try.prog 34 #[.pointer (some ⟨tb, 0, none⟩)] w fun e w' => e = .returned (.int .i64 (T.count : Int)) ∧ w = w' := by
  have hc := h.tree.cell
  generalize (T.count : Int) = c at *
  clear h
  go_enter Try.func34, Try.ntmps34
  go_wp2_with fail
  go_ret
  exact ⟨rfl, rfl⟩

set_option maxHeartbeats 400000 in
theorem room_any (h : Rep w tb T nv G) :
    Calls Try.prog 60 #[.pointer (some ⟨tb, 0, none⟩)] w fun e w' => e = .returned (.tuple #[.int .i64 T.cap, .int .i64 T.dep]) ∧ ∃ n, w' = w.drewN n := by
  have hc := h.tree.cell
  clear h
  go_enter Try.func60, Try.ntmps60
  go_wp2_with fail
  go_quiet (fail)
  go_wp2_with fail
  go_ret2
  exact ⟨rfl, _, rfl⟩
end
end Go.Proofs.Ytnnjlpkjpbbklaa
