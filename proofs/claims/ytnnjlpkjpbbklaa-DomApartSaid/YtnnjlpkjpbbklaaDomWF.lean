/-
  The tree as plain data: the calls of chapter 8 leave it sound. No program in sight. Conditions: none.
-/
import Derived.Test.YtnnjlpkjpbbklaaDomAnc
set_option linter.unusedVariables false
set_option linter.unusedSimpArgs false
namespace Go.Proofs.Ytnnjlpkjpbbklaa
namespace DT
variable {T : DT}

theorem at_put' (T : DT) (i j : Nat) (x : Option Nd) (hi : i < T.nodes.length) : (T.put i x).at_ j = if j = i then x else T.at_ j := by
  unfold at_ put
  simp only [List.getElem?_set]
  by_cases h : i = j
  · subst h; simp [hi]
  · have h' : ¬ j = i := fun e => h e.symm
    simp [h, h']
theorem at_put_same {i : Nat} {n : Nd} (h : T.at_ i = some n) (x : Option Nd) : (T.put i x).at_ i = x := by rw [at_put' T i i x (at_lt h), if_pos rfl]
theorem at_put_ne {i j : Nat} (x : Option Nd) (h : j ≠ i) : (T.put i x).at_ j = T.at_ j := by
  by_cases hi : i < T.nodes.length
  · rw [at_put' T i j x hi, if_neg h]
  · unfold at_ put
    rw [List.set_eq_of_length_le (by omega)]

/-- A sound tree, made anew out of what its nodes are. -/
theorem WF.of_at {T T' : DT} (hW : T.WF) (hc : T'.cap = T.cap) (hd : T'.dep = T.dep) (hl : (T'.nodes.length : Int) ≤ T.cap)
    (host : ∃ n, T'.at_ 0 = some n ∧ n.tag = 1 ∧ n.up = none)
    (kid : ∀ i n k, T'.at_ i = some n → k ∈ n.kids → ∃ m, T'.at_ k = some m ∧ m.up = some i)
    (par : ∀ i n p, T'.at_ i = some n → n.up = some p → ∃ m, T'.at_ p = some m ∧ i ∈ m.kids)
    (node : ∀ i n, T'.at_ i = some n → n.kids.Nodup ∧ (n.tag = 0 → n.kids = []) ∧ 0 ≤ n.tag ∧ n.tag ≤ 16 ∧ n.text.size ≤ 8192)
    (rank : ∃ d : Nat → Nat, ∀ i n, T'.at_ i = some n → (n.up = none → d i = 0) ∧ (∀ p, n.up = some p → d i = d p + 1) ∧ (d i : Int) ≤ T.dep) : T'.WF where
  cap1 := by rw [hc]; exact hW.cap1
  cap2 := by rw [hc]; exact hW.cap2
  dep1 := by rw [hd]; exact hW.dep1
  dep2 := by rw [hd]; exact hW.dep2
  len := by rw [hc]; exact hl
  host := host
  kid := kid
  par := par
  nodup := fun i n h => (node i n h).1
  leaf := fun i n h => (node i n h).2.1
  tags := fun i n h => ⟨(node i n h).2.2.1, (node i n h).2.2.2.1⟩
  txt := fun i n h => (node i n h).2.2.2.2
  rank := by rw [hd]; exact rank

theorem WF.node_ok (hW : T.WF) {i : Nat} {n : Nd} (h : T.at_ i = some n) : n.kids.Nodup ∧ (n.tag = 0 → n.kids = []) ∧ 0 ≤ n.tag ∧ n.tag ≤ 16 ∧ n.text.size ≤ 8192 :=
  ⟨hW.nodup i n h, hW.leaf i n h, (hW.tags i n h).1, (hW.tags i n h).2, hW.txt i n h⟩
theorem WF.ranks (hW : T.WF) : ∀ i n, T.at_ i = some n → (n.up = none → T.depthF fuel i = 0) ∧ (∀ p, n.up = some p → T.depthF fuel i = T.depthF fuel p + 1) ∧ (T.depthF fuel i : Int) ≤ T.dep := hW.rank_depth

/-- One node's own cells are others; its kids and its parent are the same. -/
theorem WF.own (hW : T.WF) {i : Nat} {n n' : Nd} (hi : T.at_ i = some n) (hk : n'.kids = n.kids) (hu : n'.up = n.up) (ht : n'.tag = 0 → n.kids = []) (h0 : 0 ≤ n'.tag ∧ n'.tag ≤ 16) (hx : n'.text.size ≤ 8192) (hh : i = 0 → n'.tag = 1) : (T.put i (some n')).WF := by
  have hsome : ∀ j m, (T.put i (some n')).at_ j = some m → ∃ m0, T.at_ j = some m0 ∧ m0.kids = m.kids ∧ m0.up = m.up := by
    intro j m hm
    by_cases hj : j = i
    · subst hj; rw [at_put_same hi] at hm; cases hm; exact ⟨n, hi, hk.symm, hu.symm⟩
    · rw [at_put_ne _ hj] at hm; exact ⟨m, hm, rfl, rfl⟩
  have hback : ∀ j m0, T.at_ j = some m0 → ∃ m, (T.put i (some n')).at_ j = some m ∧ m.kids = m0.kids ∧ m.up = m0.up := by
    intro j m0 hm
    by_cases hj : j = i
    · subst hj; rw [hi] at hm; cases hm; exact ⟨n', at_put_same hi _, hk, hu⟩
    · exact ⟨m0, by rw [at_put_ne _ hj]; exact hm, rfl, rfl⟩
  refine hW.of_at rfl rfl (by show ((T.nodes.set i _).length : Int) ≤ _; rw [List.length_set]; exact hW.len) ?_ ?_ ?_ ?_ ⟨T.depthF fuel, ?_⟩
  · obtain ⟨m, hm, h1, h2⟩ := hW.host
    by_cases h : 0 = i
    · subst h; rw [hi] at hm; cases hm; exact ⟨n', at_put_same hi _, hh rfl, hu.trans h2⟩
    · exact ⟨m, by rw [at_put_ne _ h]; exact hm, h1, h2⟩
  · intro j m k hj hkm
    obtain ⟨m0, hm0, e1, e2⟩ := hsome j m hj
    obtain ⟨q, hq, hqu⟩ := hW.kid j m0 k hm0 (by rw [e1]; exact hkm)
    obtain ⟨q', hq', _, e4⟩ := hback k q hq
    exact ⟨q', hq', e4.trans hqu⟩
  · intro j m p hj hp
    obtain ⟨m0, hm0, e1, e2⟩ := hsome j m hj
    obtain ⟨q, hq, hqk⟩ := hW.par j m0 p hm0 (e2.trans hp)
    obtain ⟨q', hq', e3, _⟩ := hback p q hq
    exact ⟨q', hq', by rw [e3]; exact hqk⟩
  · intro j m hj
    by_cases h : j = i
    · subst h; rw [at_put_same hi] at hj; cases hj
      exact ⟨by rw [hk]; exact hW.nodup _ _ hi, fun e => by rw [hk]; exact ht e, h0.1, h0.2, hx⟩
    · rw [at_put_ne _ h] at hj; exact hW.node_ok hj
  · intro j m hj
    obtain ⟨m0, hm0, e1, e2⟩ := hsome j m hj
    obtain ⟨h1, h2, h3⟩ := hW.ranks j m0 hm0
    exact ⟨fun e => h1 (e2.trans e), fun p e => h2 p (e2.trans e), h3⟩

theorem WF.setAttrs (hW : T.WF) (id : Int) (al : List (Bytes × Bytes)) : (T.setAttrs id al).2.WF := by
  unfold DT.setAttrs
  cases hn : T.get id with
  | none => exact hW
  | some n =>
    obtain ⟨_, h1, _⟩ := get_some hn
    dsimp only
    split
    · exact hW
    · refine hW.own h1 rfl rfl (fun e => hW.leaf _ _ h1 e) (hW.tags _ n h1) (hW.txt _ n h1) fun e => ?_
      obtain ⟨m, hm, h2, _⟩ := hW.host
      rw [e, hm] at h1; cases h1; exact h2
theorem WF.setText (hW : T.WF) (id : Int) (s : Bytes) : (T.setText id s).2.WF := by
  unfold DT.setText
  cases hn : T.get id with
  | none => exact hW
  | some n =>
    obtain ⟨_, h1, _⟩ := get_some hn
    dsimp only
    split
    · exact hW
    · split
      · exact hW
      · refine hW.own h1 rfl rfl (fun e => hW.leaf _ _ h1 e) (hW.tags _ n h1) (show s.size ≤ 8192 by omega) fun e => ?_
        obtain ⟨m, hm, h2, _⟩ := hW.host
        rw [e, hm] at h1; cases h1; exact h2
theorem elementOk_iff {tag : Int} : elementOk tag = true ↔ 1 ≤ tag ∧ tag ≤ 16 := by simp [elementOk]
theorem WF.setTag (hW : T.WF) (id tag : Int) : (T.setTag id tag).2.WF := by
  unfold DT.setTag
  cases hn : T.get id with
  | none => exact hW
  | some n =>
    obtain ⟨h0, h1, h2⟩ := get_some hn
    dsimp only
    split
    · exact hW
    · split
      · exact hW
      · rename_i h3 h4
        simp only [not_or, Bool.not_eq_false, elementOk_iff] at h4
        exact hW.own h1 rfl rfl (fun e => by have : tag = 0 := e; omega) ⟨show (0 : Int) ≤ tag by omega, h4.1.2⟩ (hW.txt _ n h1) fun e => by omega

theorem slot_le : T.slot ≤ T.nodes.length := List.findIdx_le_length
theorem slot_none : T.at_ T.slot = none := by
  unfold at_
  by_cases h : T.slot < T.nodes.length
  · have := List.findIdx_getElem (xs := T.nodes) (p := Option.isNone) (w := h)
    rw [List.getElem?_eq_getElem h]
    exact Option.isNone_iff_eq_none.1 this
  · rw [List.getElem?_eq_none (by omega)]; rfl
theorem at_addAt (n : Nd) (j : Nat) : (T.addAt n).at_ j = if j = T.slot then some n else T.at_ j := by
  unfold addAt
  split
  · rename_i h; rw [at_put' T T.slot j _ h]
  · rename_i h
    have hs : T.slot = T.nodes.length := by have := slot_le (T := T); omega
    rw [hs]
    unfold at_
    simp only [List.getElem?_append]
    by_cases hj : j < T.nodes.length
    · rw [if_pos hj, if_neg (by omega)]
    · rw [if_neg hj]
      by_cases e : j = T.nodes.length
      · subst e; simp
      · rw [if_neg e, List.getElem?_eq_none (by simp; omega), List.getElem?_eq_none (by omega)]
theorem addAt_cap (n : Nd) : (T.addAt n).cap = T.cap := by unfold addAt; split <;> rfl
theorem addAt_dep (n : Nd) : (T.addAt n).dep = T.dep := by unfold addAt; split <;> rfl
theorem count_addAt (n : Nd) : (T.addAt n).count = T.count + 1 := by
  unfold addAt
  split
  · rename_i h
    have h0 := slot_none (T := T)
    unfold count DT.put
    have hg : T.nodes[T.slot]? = some none := by
      unfold at_ at h0
      rw [List.getElem?_eq_getElem h] at h0 ⊢
      simpa using h0
    rw [List.countP_set (h := h)]
    simp only [List.getElem?_eq_getElem h, Option.some.injEq] at hg
    simp [hg]
  · unfold count; simp
theorem count_full (h : ¬ T.slot < T.nodes.length) : T.count = T.nodes.length := by
  unfold count
  rw [List.countP_eq_length]
  intro x hx
  cases x with
  | some _ => rfl
  | none => exact absurd (List.findIdx_lt_length_of_exists ⟨none, hx, rfl⟩) h
theorem addAt_len (h : T.roomFor 1 = true) (hW : T.WF) (n : Nd) : ((T.addAt n).nodes.length : Int) ≤ T.cap := by
  have := hW.len
  unfold addAt
  split
  · show ((T.nodes.set _ _).length : Int) ≤ _
    rw [List.length_set]; exact this
  · rename_i hs
    have := count_full hs
    simp only [roomFor, decide_eq_true_eq] at h
    simp only [List.length_append, List.length_cons, List.length_nil]
    omega
theorem slot_pos (hW : T.WF) : T.slot ≠ 0 := by
  intro e
  obtain ⟨m, hm, _⟩ := hW.host
  have := slot_none (T := T)
  rw [e, hm] at this
  cases this

/-- A loose node more. -/
theorem WF.addAt (hW : T.WF) {n : Nd} (hr : T.roomFor 1 = true) (hk : n.kids = []) (hu : n.up = none) (ht : 0 ≤ n.tag ∧ n.tag ≤ 16) (hx : n.text.size ≤ 8192) : (T.addAt n).WF := by
  have h0 := slot_pos hW
  have hno := slot_none (T := T)
  have hne : ∀ j m, T.at_ j = some m → j ≠ T.slot := fun j m hj e => by rw [e, hno] at hj; cases hj
  refine hW.of_at (addAt_cap n) (addAt_dep n) (addAt_len hr hW n) ?_ ?_ ?_ ?_ ⟨fun j => if j = T.slot then 0 else T.depthF fuel j, ?_⟩
  · obtain ⟨m, hm, h1, h2⟩ := hW.host
    exact ⟨m, by rw [at_addAt, if_neg (fun e => h0 e.symm)]; exact hm, h1, h2⟩
  · intro j m k hj hkm
    rw [at_addAt] at hj
    split at hj
    · cases hj; rw [hk] at hkm; cases hkm
    · obtain ⟨q, hq, hqu⟩ := hW.kid j m k hj hkm
      exact ⟨q, by rw [at_addAt, if_neg (hne _ _ hq)]; exact hq, hqu⟩
  · intro j m p hj hp
    rw [at_addAt] at hj
    split at hj
    · cases hj; rw [hu] at hp; cases hp
    · obtain ⟨q, hq, hqk⟩ := hW.par j m p hj hp
      exact ⟨q, by rw [at_addAt, if_neg (hne _ _ hq)]; exact hq, hqk⟩
  · intro j m hj
    rw [at_addAt] at hj
    split at hj
    · cases hj; rw [hk]; exact ⟨List.nodup_nil, fun _ => rfl, ht.1, ht.2, hx⟩
    · exact hW.node_ok hj
  · intro j m hj
    rw [at_addAt] at hj
    split at hj
    · cases hj
      rename_i e
      refine ⟨fun _ => by simp [e], fun p hp => (by rw [hu] at hp; cases hp), ?_⟩
      simp only [e, if_pos]; exact hW.dep1
    · rename_i e
      obtain ⟨h1, h2, h3⟩ := hW.ranks j m hj
      refine ⟨fun hu => by simp only [if_neg e]; exact h1 hu, fun p hp => ?_, by simp only [if_neg e]; exact h3⟩
      obtain ⟨q, hq, _⟩ := hW.par j m p hj hp
      simp only [if_neg e, if_neg (hne _ _ hq)]
      exact h2 p hp

theorem WF.element (hW : T.WF) (tag : Int) (al : List (Bytes × Bytes)) : (T.element tag al).2.WF := by
  unfold DT.element
  split
  · exact hW
  · split
    · exact hW
    · rename_i h1 h2
      simp only [Bool.not_eq_false, elementOk_iff] at h1 h2
      exact hW.addAt h2 rfl rfl ⟨show (0 : Int) ≤ tag by omega, h1.2⟩ (show ByteArray.empty.size ≤ 8192 by decide)
theorem WF.text (hW : T.WF) (s : Bytes) : (T.text s).2.WF := by
  unfold DT.text
  split
  · exact hW
  · split
    · exact hW
    · rename_i h1 h2
      simp only [Bool.not_eq_false] at h2
      exact hW.addAt h2 rfl rfl ⟨show (0 : Int) ≤ 0 by decide, show (0 : Int) ≤ 16 by decide⟩ (show s.size ≤ 8192 by omega)

theorem new_wf {cap dep : Int} (h1 : 1 ≤ cap) (h2 : cap ≤ 2000) (h3 : 0 ≤ dep) (h4 : dep ≤ 40) : (DT.new cap dep).WF where
  cap1 := h1
  cap2 := h2
  dep1 := h3
  dep2 := h4
  len := by simpa [DT.new] using h1
  host := ⟨_, rfl, rfl, rfl⟩
  kid := fun i n k h hk => by
    cases i with
    | zero => simp [DT.new, at_] at h; subst h; cases hk
    | succ i => simp [DT.new, at_] at h
  par := fun i n p h hk => by
    cases i with
    | zero => simp [DT.new, at_] at h; subst h; cases hk
    | succ i => simp [DT.new, at_] at h
  nodup := fun i n h => by
    cases i with
    | zero => simp [DT.new, at_] at h; subst h; exact List.nodup_nil
    | succ i => simp [DT.new, at_] at h
  leaf := fun i n h _ => by
    cases i with
    | zero => simp [DT.new, at_] at h; subst h; rfl
    | succ i => simp [DT.new, at_] at h
  tags := fun i n h => by
    cases i with
    | zero => simp [DT.new, at_] at h; subst h; exact ⟨by decide, by decide⟩
    | succ i => simp [DT.new, at_] at h
  txt := fun i n h => by
    cases i with
    | zero => simp [DT.new, at_] at h; subst h; decide
    | succ i => simp [DT.new, at_] at h
  rank := ⟨fun _ => 0, fun i n h => by
    cases i with
    | zero => simp [DT.new, at_] at h; subst h; exact ⟨fun _ => rfl, fun p hp => (by cases hp), by simpa [DT.new] using h3⟩
    | succ i => simp [DT.new, at_] at h⟩
end DT
end Go.Proofs.Ytnnjlpkjpbbklaa
