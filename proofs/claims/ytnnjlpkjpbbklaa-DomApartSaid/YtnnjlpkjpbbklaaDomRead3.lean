/-
  slices.Index, and Kids, Attrs, Index of package dom. Conditions: the tree lies in memory.
-/
import Derived.Test.YtnnjlpkjpbbklaaDomRead2
set_option linter.unusedVariables false
set_option linter.unusedSimpArgs false
namespace Go.Proofs.Ytnnjlpkjpbbklaa
open Go.RowKit

/-- Where a number first stands in a row; below 0: nowhere. -/
def idxI (l : List Int) (x : Int) : Int := if x ∈ l then (l.idxOf x : Int) else -1

theorem idxI_found {l : List Int} {x : Int} {k : Nat} (hk : k < l.length) (he : l.getD k 0 = x) (hno : x ∉ l.take k) : idxI l x = (k : Int) := by
  have hm : x ∈ l := by
    rw [← he]; simp [List.getD, List.getElem?_eq_getElem hk]
  rw [idxI, if_pos hm]
  congr 1
  have h1 : l = l.take k ++ l.drop k := (List.take_append_drop k l).symm
  have h2 : l.drop k = l[k] :: l.drop (k + 1) := List.drop_eq_getElem_cons hk
  have h3 : l[k] = x := by rw [← he]; simp [List.getD, List.getElem?_eq_getElem hk]
  rw [h1, List.idxOf_append, if_neg hno, h2, h3]
  simp; omega

set_option maxHeartbeats 400000 in
theorem index_any {w : World} {v : Value} {n : Nat} {zs : List Int} (h : Row w 3 1 v n (zs.map (Value.int .i64))) (hn : n ≤ 1000000) (x : Int) :
    Calls Try.prog 117 #[v, .int .i64 x] w fun e w' => e = .returned (.int .i64 (idxI zs x)) ∧ w = w' := by
  have hzl : zs.length = n := by simpa using h.1
  by_cases h0 : n = 0
  · subst h0
    have hz : zs = [] := List.eq_nil_of_length_eq_zero hzl
    obtain ⟨A, cap, rfl, _, _, _⟩ := h.form
    subst hz
    clear h
    go_enter Try.func117, Try.ntmps117
    go_wp2_with fail
    go_loop [5, 8] (fun _ i => i = .int .i64 0) (fun _ _ => 0)
    case atStart => rfl
    case round =>
      subst hrel
      go_wp2_with fail
      go_ret
      exact ⟨rfl, rfl⟩
  · obtain ⟨g, cap, rfl, hc, hm, hg, hcell⟩ := h.open_ (by omega)
    have HC := Lib.hid hcell
    have HZ := Lib.hid hzl
    clear hcell h hzl
    go_enter Try.func117, Try.ntmps117
    go_wp2_with fail
    go_loop [5, 8] (fun _ i => ∃ k : Nat, k ≤ n ∧ i = .int .i64 k ∧ Hid (x ∉ zs.take k)) (fun _ i => n - (intOf i).toNat)
    case atStart => exact ⟨0, Nat.zero_le _, rfl, by simp [Hid]⟩
    case round =>
      obtain ⟨k, hk, rfl, hno⟩ := hrel
      by_cases hlt : k < n
      · have hkl : k < zs.length := by have := HZ.out; omega
        have hcell := HC.out k hlt
        have hx : zs.getD k 0 = zs[k] := by simp [List.getD, List.getElem?_eq_getElem hkl]
        have hts : zs.take (k + 1) = zs.take k ++ [zs[k]] := List.take_succ_eq_append_getElem hkl
        rw [List.getElem?_map, List.getElem?_eq_getElem hkl, Option.map_some] at hcell
        have hf : zs[k] = x → idxI zs x = (k : Int) := fun e => idxI_found hkl (hx.trans e) hno.out
        generalize zs[k] = y at hcell hts hf
        have HT := Lib.hid (And.intro hts hf)
        clear hts hf hx hkl
        by_cases hxy : x = y
        · have hd : (x == y) = true := by simp [hxy]
          have HX := Lib.hid hxy
          clear hxy
          go_wp2_with fail
          go_ret
          exact ⟨ret_int (HT.out.2 HX.out.symm).symm, rfl⟩
        · have hd : (x == y) = false := by simp [hxy]
          have HX := Lib.hid hxy
          clear hxy
          go_wp2_with fail
          refine ⟨⟨k + 1, by omega, by go_num, ?_⟩, by simp [intOf]; omega⟩
          show x ∉ _
          rw [HT.out.1, List.mem_append]
          rintro (h1 | h1)
          · exact hno.out h1
          · exact HX.out (by simpa using h1)
      · have hkn : k = n := by omega
        subst hkn
        go_wp2_with fail
        go_ret
        refine ⟨ret_int ?_, rfl⟩
        have := hno.out
        rw [List.take_of_length_le (by have := HZ.out; omega)] at this
        rw [idxI, if_neg this]

theorem nodup_le : ∀ (n : Nat) (l : List Nat), l.Nodup → (∀ x ∈ l, x < n) → l.length ≤ n := by
  intro n
  induction n with
  | zero =>
    intro l _ h
    cases l with
    | nil => simp
    | cons a l => have := h a (by simp); omega
  | succ n ih =>
    intro l hl h
    have h1 := ih (l.erase n) (hl.erase n) (fun x hx => by
      have := h x (List.mem_of_mem_erase hx)
      have hne : x ≠ n := fun e => by subst e; exact (List.Nodup.not_mem_erase hl) hx
      omega)
    by_cases hn : n ∈ l
    · rw [List.length_erase_of_mem hn] at h1; omega
    · rw [List.erase_of_not_mem hn] at h1; omega

section
variable {w : World} {tb : Nat} {T : DT} {nv : Value} {G : List (Option NG)}

theorem kids_len (hW : T.WF) {i : Nat} {n : Nd} (hi : T.at_ i = some n) : n.kids.length ≤ T.nodes.length := by
  have h1 := hW.nodup i n hi
  have h2 : ∀ k ∈ n.kids, k ∈ List.range T.nodes.length := fun k hk => by
    obtain ⟨m, hm, _⟩ := hW.kid i n k hi hk
    exact List.mem_range.2 (DT.at_lt hm)
  exact nodup_le _ _ h1 fun k hk => List.mem_range.1 (h2 k hk)

set_option maxHeartbeats 400000 in
theorem kids_any (h : Rep w tb T nv G) (hW : T.WF) (id : Int) :
    Calls Try.prog 64 #[.pointer (some ⟨tb, 0, none⟩), .int .i64 id] w (RetRow 3 1 (T.kidsOf id).length (kidCells (T.kidsOf id)) w) := by
  have hl := hW.nodes_le
  cases hn : T.get id with
  | none =>
    have e : T.kidsOf id = [] := by simp [DT.kidsOf, hn]
    have H := Lib.hid (get_none h hl hn)
    rw [e]
    clear h hn e
    go_enter Try.func64, Try.ntmps64
    go_wp2_with ((with_reducible refine H.out.mono ?_); rintro e w' ⟨rfl, rfl⟩)
    go_ret
    exact ⟨_, rfl, World.ownsRow_nil _ _ _ _, Below.refl _ _⟩
  | some n =>
    have e : T.kidsOf id = n.kids := by simp [DT.kidsOf, hn]
    have hkl := kids_len hW (DT.get_some hn).2.1
    obtain ⟨g, hr, _, H⟩ := get_some h hl hn
    have hc := hr.1.cell
    have H := Lib.hid H
    have HK := Lib.hid (cloneInt_any hr.2.2 (by omega) (kidCells_one _))
    obtain ⟨A, cap, hv, _, _, _⟩ := hr.2.2.form
    rw [e]
    rw [hv] at hc HK
    clear h hn e hr hv hkl
    generalize n.kids.length = m at *
    go_enter Try.func64, Try.ntmps64
    go_wp2_with (first | ((with_reducible refine H.out.mono ?_); rintro e w' ⟨rfl, rfl⟩) | ((with_reducible refine HK.out.mono ?_); rintro e w1 ⟨v, rfl, hown, hb⟩; have HO := Lib.hid (And.intro hown hb); clear hown hb))
    go_ret
    exact ⟨v, rfl, HO.out.1, HO.out.2⟩

set_option maxHeartbeats 400000 in
theorem attrs_any (h : Rep w tb T nv G) (hW : T.WF) (id : Int) (ha : (T.attrsOf id).length ≤ 1000000) :
    Calls Try.prog 62 #[.pointer (some ⟨tb, 0, none⟩), .int .i64 id] w (RetRow 55 2 (T.attrsOf id).length (attrCells (T.attrsOf id)) w) := by
  have hl := hW.nodes_le
  cases hn : T.get id with
  | none =>
    have e : T.attrsOf id = [] := by simp [DT.attrsOf, hn]
    have H := Lib.hid (get_none h hl hn)
    rw [e]
    clear h hn e
    go_enter Try.func62, Try.ntmps62
    go_wp2_with ((with_reducible refine H.out.mono ?_); rintro e w' ⟨rfl, rfl⟩)
    go_ret
    exact ⟨_, rfl, World.ownsRow_nil _ _ _ _, Below.refl _ _⟩
  | some n =>
    have e : T.attrsOf id = n.attrs := by simp [DT.attrsOf, hn]
    obtain ⟨g, hr, _, H⟩ := get_some h hl hn
    have hc := hr.1.cell
    have H := Lib.hid H
    rw [e] at ha
    have HK := Lib.hid (cloneAttr_any hr.2.1 ha (attrCells_one _))
    obtain ⟨A, cap, hv, _, _, _⟩ := hr.2.1.form
    rw [e]
    rw [hv] at hc HK
    clear h hn e hr hv
    generalize n.attrs.length = m at *
    go_enter Try.func62, Try.ntmps62
    go_wp2_with (first | ((with_reducible refine H.out.mono ?_); rintro e w' ⟨rfl, rfl⟩) | ((with_reducible refine HK.out.mono ?_); rintro e w1 ⟨v, rfl, hown, hb⟩; have HO := Lib.hid (And.intro hown hb); clear hown hb))
    go_ret
    exact ⟨v, rfl, HO.out.1, HO.out.2⟩

theorem idxI_kids (l : List Nat) (id : Int) : idxI (l.map fun (k : Nat) => (k : Int)) id = if id.toNat ∈ l ∧ 0 ≤ id then (l.idxOf id.toNat : Int) else -1 := by
  unfold idxI
  by_cases h0 : 0 ≤ id
  · obtain ⟨k, rfl⟩ : ∃ k : Nat, id = k := ⟨id.toNat, by omega⟩
    have e1 : ((k : Int) ∈ l.map fun (k : Nat) => (k : Int)) ↔ k ∈ l := by
      constructor
      · intro h
        obtain ⟨a, ha, e⟩ := List.mem_map.1 h
        have : a = k := by omega
        rwa [← this]
      · intro h; exact List.mem_map.2 ⟨k, h, rfl⟩
    have e2 : (l.map fun (k : Nat) => (k : Int)).idxOf (k : Int) = l.idxOf k := by
      induction l with
      | nil => rfl
      | cons a l ih =>
        simp only [List.map_cons, List.idxOf_cons]
        by_cases hak : a = k
        · simp [hak]
        · have : ¬ ((a : Int) = k) := by omega
          have ih' := ih (by
            constructor
            · intro h
              obtain ⟨b, hb, e⟩ := List.mem_map.1 h
              have : b = k := by omega
              rwa [← this]
            · intro h; exact List.mem_map.2 ⟨k, h, rfl⟩)
          have b1 : ((a : Int) == (k : Int)) = false := beq_eq_false_iff_ne.2 this
          have b2 : (a == k) = false := beq_eq_false_iff_ne.2 hak
          rw [b1, b2, ih']
    simp only [e1, e2, Int.toNat_natCast, Int.natCast_nonneg, and_true]
  · have hn : id ∉ l.map fun (k : Nat) => (k : Int) := by
      intro h
      obtain ⟨a, _, e⟩ := List.mem_map.1 h
      omega
    rw [if_neg hn, if_neg (fun h => h0 h.2)]

theorem kidCells_map (l : List Nat) : kidCells l = (l.map fun (k : Nat) => (k : Int)).map (Value.int .i64) := by simp [kidCells]

set_option maxHeartbeats 400000 in
theorem indexOf_any (h : Rep w tb T nv G) (hW : T.WF) (id : Int) :
    Calls Try.prog 50 #[.pointer (some ⟨tb, 0, none⟩), .int .i64 id] w fun e w' => e = .returned (.int .i64 (T.indexOf id)) ∧ w = w' := by
  have hl := hW.nodes_le
  have HP := Lib.hid (parent_any h hl id)
  cases hn : T.get (T.upOf id) with
  | none =>
    have e : T.indexOf id = -1 := by simp [DT.indexOf, hn]
    have H := Lib.hid (get_none h hl hn)
    rw [e]
    clear h hn e
    generalize T.upOf id = u at *
    go_enter Try.func50, Try.ntmps50
    go_wp2_with (first | ((with_reducible refine HP.out.mono ?_); rintro e w' ⟨rfl, rfl⟩) | ((with_reducible refine H.out.mono ?_); rintro e w' ⟨rfl, rfl⟩))
    go_ret
    exact ⟨rfl, rfl⟩
  | some p =>
    have e : T.indexOf id = idxI (p.kids.map fun (k : Nat) => (k : Int)) id := by rw [idxI_kids]; simp [DT.indexOf, hn]
    have hkl := kids_len hW (DT.get_some hn).2.1
    obtain ⟨g, hr, _, H⟩ := get_some h hl hn
    have hc := hr.1.cell
    have H := Lib.hid H
    have hrow := hr.2.2
    rw [kidCells_map] at hrow
    have HK := Lib.hid (index_any hrow (by omega) id)
    obtain ⟨A, cap, hv, _, _, _⟩ := hr.2.2.form
    rw [e]
    rw [hv] at hc HK
    clear h hn e hr hv hkl hrow
    generalize T.upOf id = u at *
    generalize p.kids.length = m at *
    generalize idxI (p.kids.map fun (k : Nat) => (k : Int)) id = r at *
    go_enter Try.func50, Try.ntmps50
    go_wp2_with (first | ((with_reducible refine HP.out.mono ?_); rintro e w' ⟨rfl, rfl⟩) | ((with_reducible refine H.out.mono ?_); rintro e w' ⟨rfl, rfl⟩) | ((with_reducible refine HK.out.mono ?_); rintro e w' ⟨rfl, rfl⟩))
    go_ret
    exact ⟨rfl, rfl⟩
end
end Go.Proofs.Ytnnjlpkjpbbklaa
