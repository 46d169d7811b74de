/-
  What stands behind a node, and All, as plain data. No program in sight. Conditions: none.
-/
import Derived.Test.YtnnjlpkjpbbklaaPureDom
set_option linter.unusedVariables false
set_option linter.unusedSimpArgs false
namespace Go.Proofs.Ytnnjlpkjpbbklaa
namespace DT
variable {T : DT}
/-- The node behind: a sibling of the node or of one that it is within. -/
theorem WF.behind_path (h : T.WF) : ∀ (d i : Nat) (n : Nd), T.at_ i = some n → T.depthF fuel i = d → ∀ k, T.behindO i = some k → (∃ m, T.at_ k = some m) ∧ T.root k = T.root i ∧ ∃ P q rest, T.path_ i = P ++ q :: rest ∧ T.path_ k = P ++ [q + 1] := by
  intro d
  induction d with
  | zero =>
    intro i n hi hd k hk
    cases hu : n.up with
    | none => rw [h.behind_root hi hu] at hk; cases hk
    | some p => have := h.depth_up hi hu; omega
  | succ d ih =>
    intro i n hi hd k hk
    cases hu : n.up with
    | none => rw [h.behind_root hi hu] at hk; cases hk
    | some p =>
      obtain ⟨m, hm, hkm⟩ := h.par _ _ _ hi hu
      have hdu := h.depth_up hi hu
      have hp := h.path_up hi hu hm
      have hr : T.root i = T.root p := by rw [h.root_step hi, hu]
      rw [h.behind_up hi hu hm] at hk
      cases hx : m.kids[m.kids.idxOf i + 1]? with
      | some y =>
        rw [hx] at hk
        simp only [Option.some_or, Option.some.injEq] at hk
        subst hk
        have hlt : m.kids.idxOf i + 1 < m.kids.length := by
          rcases Nat.lt_or_ge (m.kids.idxOf i + 1) m.kids.length with h1 | h1
          · exact h1
          · rw [List.getElem?_eq_none h1] at hx; cases hx
        have hye : m.kids[m.kids.idxOf i + 1] = y := by rw [List.getElem?_eq_getElem hlt] at hx; exact Option.some.inj hx
        have hym : y ∈ m.kids := by rw [← hye]; exact List.getElem_mem hlt
        obtain ⟨my, hmy, huy⟩ := h.kid _ _ _ hm hym
        refine ⟨⟨my, hmy⟩, by rw [hr, h.root_step hmy, huy], T.path_ p, m.kids.idxOf i, [], hp, ?_⟩
        rw [h.path_up hmy huy hm]
        have : m.kids.idxOf y = m.kids.idxOf i + 1 := by rw [← hye]; exact idxOf_getElem (h.nodup _ _ hm) _ hlt
        rw [this]
      | none =>
        rw [hx] at hk
        simp only [Option.none_or] at hk
        obtain ⟨a, b, P, q, rest, e1, e2⟩ := ih p m hm (by omega) k hk
        exact ⟨a, by rw [b, hr], P, q, rest ++ [m.kids.idxOf i], by rw [hp, e1]; simp, e2⟩
theorem WF.behind_not (h : T.WF) {i : Nat} {n : Nd} (hi : T.at_ i = some n) {k : Nat} (hk : T.behindO i = some k) : k ∉ T.all_ i := by
  obtain ⟨⟨m, hm⟩, hr, P, q, rest, e1, e2⟩ := h.behind_path _ i n hi rfl k hk
  intro hmem
  have ha := (h.mem_all hi k).1 hmem
  obtain ⟨l, hl⟩ := (h.path_anc hm hi hr).2 ha
  rw [e1, e2, List.append_assoc, List.append_cancel_left_eq] at hl
  simp only [List.cons_append, List.cons.injEq] at hl
  omega
theorem WF.all_lt (h : T.WF) {i : Nat} {n : Nd} (hi : T.at_ i = some n) : ∀ k ∈ T.all_ i, k < T.nodes.length := fun k hk => by
  obtain ⟨⟨m, hm⟩, _⟩ := h.all_anc i n hi k hk
  exact at_lt hm

/-- Where the walk over all within stands behind so many rounds. -/
def standAt (T : DT) (i k : Nat) : Option Nat := ((T.all_ i)[k]?).or (T.behindO i)
theorem WF.stand_next (h : T.WF) {i : Nat} {n : Nd} (hi : T.at_ i = some n) {k : Nat} (hk : k < (T.all_ i).length) : T.standAt i k = some (T.all_ i)[k] ∧ T.nextO (T.all_ i)[k] = T.standAt i (k + 1) ∧ ∃ m, T.at_ (T.all_ i)[k] = some m := by
  obtain ⟨r, _, _, _⟩ := h.run i n hi
  refine ⟨?_, Run.at _ k hk r, (h.all_anc i n hi _ (List.getElem_mem hk)).1⟩
  unfold standAt
  rw [List.getElem?_eq_getElem hk]
  rfl
theorem WF.stand_end (h : T.WF) {i : Nat} {k : Nat} (hk : (T.all_ i).length ≤ k) : T.standAt i k = T.behindO i := by
  unfold standAt
  rw [List.getElem?_eq_none hk]
  rfl
theorem WF.stand_ne (h : T.WF) {i : Nat} {n : Nd} (hi : T.at_ i = some n) {k : Nat} (hk : k < (T.all_ i).length) : ((T.all_ i)[k] : Int) ≠ upI (T.behindO i) := by
  cases hb : T.behindO i with
  | none => show _ ≠ (-1 : Int); omega
  | some b =>
    show _ ≠ (b : Int)
    intro e
    have : (T.all_ i)[k] = b := by omega
    exact h.behind_not hi hb (this ▸ List.getElem_mem hk)
theorem WF.stand_first (h : T.WF) {i : Nat} {n : Nd} (hi : T.at_ i = some n) : T.standAt i 0 = some i ∧ 0 < (T.all_ i).length := by
  unfold standAt
  rw [h.all_step hi]
  simp

/-- The next node in the order stands behind. -/
theorem WF.next_cmp (h : T.WF) {c : Bytes → Nat} {x y : Nat} {n : Nd} (hx : T.at_ x = some n) (hn : T.nextO x = some y) : T.cmp c ⟨(x : Int), 0⟩ ⟨(y : Int), 0⟩ = (-1, true) := by
  have may0 : ∀ {i : Nat} {n : Nd}, T.at_ i = some n → T.may c ⟨(i : Int), 0⟩ = true := fun {i n} hi => by
    have := length_nonneg (T := T) (c := c) (has_some hi)
    simp [may, this]
  rw [h.next_eq hx] at hn
  cases hk : n.kids with
  | cons k r =>
    rw [hk] at hn
    simp only [List.head?_cons, Option.some_or, Option.some.injEq] at hn
    subst hn
    have hkm : k ∈ n.kids := by rw [hk]; simp
    obtain ⟨m, hm, hu⟩ := h.kid _ _ _ hx hkm
    have hr : T.root k = T.root x := by rw [h.root_step hm, hu]
    have hp : T.path_ k = T.path_ x ++ 0 :: [] := by rw [h.path_up hm hu hx, hk]; simp
    rw [cmp_yes (may0 hx) (may0 hm) (by rw [rootI_nat (p := ⟨(x : Int), 0⟩) rfl, rootI_nat (p := ⟨(k : Int), 0⟩) rfl, hr]), key_down (i := x) (j := k) rfl rfl hx hm hp]
    simp
  | nil =>
    rw [hk] at hn
    simp only [List.head?_nil, Option.none_or] at hn
    obtain ⟨⟨m, hm⟩, hr, P, q, rest, e1, e2⟩ := h.behind_path _ x n hx rfl y hn
    rw [cmp_yes (may0 hx) (may0 hm) (by rw [rootI_nat (p := ⟨(x : Int), 0⟩) rfl, rootI_nat (p := ⟨(y : Int), 0⟩) rfl, hr]), key_nat (i := x) rfl hx, key_nat (i := y) rfl hm, e1, e2]
    simp only [List.map_append, List.map_cons, List.append_assoc, List.cons_append]
    rw [cmpL_part _ (by omega), if_pos (by omega)]

/-- OrderGoes' plain law: from a root. -/
theorem WF.goes (h : T.WF) {c : Bytes → Nat} {i : Nat} {n : Nd} (hi : T.at_ i = some n) (hu : n.up = none) (k : Nat) (hk : k < (T.all_ i).length) :
    T.isWithin ((T.all_ i)[k] : Int) (i : Int) = true ∧ T.nextO (T.all_ i)[k] = T.standAt i (k + 1) ∧ (∀ hk1 : k + 1 < (T.all_ i).length, T.prevO (T.all_ i)[k + 1] = some (T.all_ i)[k] ∧ T.cmp c ⟨((T.all_ i)[k] : Int), 0⟩ ⟨((T.all_ i)[k + 1] : Int), 0⟩ = (-1, true)) := by
  obtain ⟨r, _, pr, _⟩ := h.run i n hi
  obtain ⟨s1, s2, m, hm⟩ := h.stand_next hi hk
  refine ⟨?_, s2, fun hk1 => ⟨Prun.at _ _ k hk1 pr, ?_⟩⟩
  · rw [isWithin_nat hm, h.within_anc hm]
    exact (h.mem_all hi _).1 (List.getElem_mem hk)
  · refine h.next_cmp hm ?_
    rw [s2, (h.stand_next hi hk1).1]
theorem WF.root_ends (h : T.WF) {i : Nat} {n : Nd} (hi : T.at_ i = some n) (hu : n.up = none) : T.behindO i = none ∧ T.prevO i = none := by
  refine ⟨h.behind_root hi hu, ?_⟩
  unfold prevO
  rw [up_of hi, hu]

/-- The place of a place's point is that place. -/
theorem WF.point_back (h : T.WF) {c : Bytes → Nat} {p : Pl} (hm : T.may c p = true) (hl : T.live p.node = true) : T.find 0 (ofNats (T.path p.node)) = some p.node.toNat ∧ (p.node.toNat : Int) = p.node := by
  obtain ⟨i, n, e, hi, _⟩ := may_get hm
  rw [e] at hl ⊢
  rw [path_nat hi, Int.toNat_natCast]
  refine ⟨?_, rfl⟩
  obtain ⟨m, h0, ht, hu⟩ := h.host
  have ha := (h.live_iff hi).1 hl
  have hr : T.root i = 0 := by
    rw [h.anc_root hi ha h0, h.root_step h0, hu]
  have := h.find_path hi
  rw [hr] at this
  unfold find
  rw [show T.has 0 = true from h.has0.1]
  exact this
end DT
end Go.Proofs.Ytnnjlpkjpbbklaa
