/-
  The tree as plain data: what the statements of chapter 8 say of it. No program in sight. Conditions: none.
-/
import Derived.Test.YtnnjlpkjpbbklaaDomLawP
set_option linter.unusedVariables false
set_option linter.unusedSimpArgs false
namespace Go.Proofs.Ytnnjlpkjpbbklaa
namespace DT
variable {T : DT} {f : Bytes → Bytes}

theorem upOf_nat {i : Nat} {n : Nd} (h : T.at_ i = some n) : T.upOf (i : Int) = upI n.up := by unfold upOf; rw [get_nat, h]
theorem tagOf_nat {i : Nat} {n : Nd} (h : T.at_ i = some n) : T.tagOf (i : Int) = n.tag := by unfold tagOf; rw [get_nat, h]
theorem kidsOf_nat {i : Nat} {n : Nd} (h : T.at_ i = some n) : T.kidsOf (i : Int) = n.kids := by unfold kidsOf; rw [get_nat, h]
theorem has_some {i : Nat} {n : Nd} (h : T.at_ i = some n) : T.has (i : Int) = true := by rw [has_nat, h]; rfl
theorem depth_nat {i : Nat} {n : Nd} (h : T.at_ i = some n) : T.depth (i : Int) = (T.depthF fuel i : Int) := by unfold depth; rw [has_some h]; simp
theorem height_nat {i : Nat} {n : Nd} (h : T.at_ i = some n) : T.height (i : Int) = (T.heightF fuel i : Int) := by unfold height; rw [has_some h]; simp
theorem plain_nat {i : Nat} {n : Nd} (h : T.at_ i = some n) : T.plain (i : Int) = T.plainF fuel i := by unfold plain; rw [has_some h]; simp
theorem live_nat {i : Nat} {n : Nd} (h : T.at_ i = some n) : T.live (i : Int) = T.within i 0 := by unfold live; rw [has_some h]; simp
theorem WF.live_iff (hW : T.WF) {i : Nat} {n : Nd} (h : T.at_ i = some n) : T.live (i : Int) = true ↔ Anc T i 0 := by rw [live_nat h, hW.within_anc h]
theorem indexOf_root {i : Nat} {n : Nd} (h : T.at_ i = some n) (hu : n.up = none) : T.indexOf (i : Int) = -1 := by
  unfold indexOf
  rw [upOf_nat h, hu]
  rfl
theorem indexOf_kid {i p : Nat} {n m : Nd} (h : T.at_ i = some n) (hu : n.up = some p) (hp : T.at_ p = some m) (hk : i ∈ m.kids) : T.indexOf (i : Int) = (m.kids.idxOf i : Int) := by
  unfold indexOf
  rw [upOf_nat h, hu]
  show (match T.get (p : Int) with | none => _ | some p => _) = _
  rw [get_nat, hp]
  simp [hk]
theorem has_get {id : Int} (h : T.has id = true) : ∃ i : Nat, ∃ n, id = (i : Int) ∧ T.at_ i = some n := by
  unfold has at h
  cases hn : T.get id with
  | none => rw [hn] at h; cases h
  | some n =>
    obtain ⟨h0, h1, h2⟩ := get_some hn
    exact ⟨id.toNat, n, h2.symm, h1⟩
theorem WF.has0 (hW : T.WF) : T.has 0 = true ∧ T.upOf 0 = -1 ∧ T.tagOf 0 = 1 := by
  obtain ⟨m, hm, h1, h2⟩ := hW.host
  have e := upOf_nat hm
  rw [h2] at e
  exact ⟨has_some hm, e, by rw [← h1]; exact tagOf_nat hm⟩
theorem WF.count_cap (hW : T.WF) : (T.count : Int) ≤ T.cap := by
  have h1 : T.count ≤ T.nodes.length := List.countP_le_length
  have := hW.len
  omega

theorem idxOf_getElem {l : List Nat} (h : l.Nodup) (i : Nat) (hi : i < l.length) : l.idxOf l[i] = i := by
  induction l generalizing i with
  | nil => simp at hi
  | cons x l ih =>
    rw [List.nodup_cons] at h
    cases i with
    | zero => simp
    | succ i =>
      simp only [List.length_cons, Nat.add_lt_add_iff_right] at hi
      simp only [List.getElem_cons_succ]
      rw [List.idxOf_cons, show (x == l[i]) = false by simpa using fun e : x = l[i] => h.1 (by rw [e]; exact List.getElem_mem hi), cond_false, ih h.2 i hi]

/-- A kid of a node, as it is told. -/
theorem WF.kid_told (hW : T.WF) {j : Nat} {n : Nd} (hj : T.at_ j = some n) (i : Nat) (hi : i < n.kids.length) :
    T.has (n.kids[i] : Nat) = true ∧ T.upOf (n.kids[i] : Nat) = j ∧ T.indexOf (n.kids[i] : Nat) = i ∧ T.depth (n.kids[i] : Nat) = T.depth j + 1 ∧ T.height (n.kids[i] : Nat) < T.height j ∧ T.live (n.kids[i] : Nat) = T.live j := by
  have hk : n.kids[i] ∈ n.kids := List.getElem_mem hi
  obtain ⟨m, hm, hu, hd⟩ := hW.kid_depth hj hk
  have hh := hW.height_step hj
  have hmx := foldl_max_mem n.kids (fun k => T.heightF fuel k + 1) 0 _ hk
  rw [← hh] at hmx
  refine ⟨has_some hm, by rw [upOf_nat hm, hu]; rfl, ?_, ?_, ?_, ?_⟩
  · rw [indexOf_kid hm hu hj hk, idxOf_getElem (hW.nodup _ _ hj) i hi]
  · rw [depth_nat hm, depth_nat hj, hd]; omega
  · rw [height_nat hm, height_nat hj]; omega
  · rw [live_nat hm, live_nat hj, hW.within_step hm, hu]
    have hne : n.kids[i] ≠ 0 := fun e => by
      obtain ⟨q, hq, _, hqu⟩ := hW.host
      rw [e, hq] at hm; cases hm; rw [hqu] at hu; cases hu
    simp [hne]
/-- A node, as it is told. -/
theorem WF.node_told (hW : T.WF) {j : Nat} {n : Nd} (hj : T.at_ j = some n) :
    (T.upOf j < 0 → T.depth j = 0) ∧ (0 ≤ T.upOf j → T.has (T.upOf j) = true ∧ 0 ≤ T.indexOf j ∧ T.tagOf (T.upOf j) ≠ 0) ∧ T.depth j ≤ T.dep ∧
      T.live j = (decide ((j : Int) = 0) || (decide (0 ≤ T.upOf j) && T.live (T.upOf j))) ∧ (T.tagOf j = 0 → n.kids = []) := by
  obtain ⟨r1, r2, r3⟩ := hW.rank_depth j n hj
  rw [upOf_nat hj, depth_nat hj, tagOf_nat hj]
  cases hu : n.up with
  | none =>
    refine ⟨fun _ => by rw [r1 hu]; rfl, fun h => by simp [upI] at h, r3, ?_, fun h => hW.leaf _ _ hj h⟩
    rw [live_nat hj, hW.within_step hj, hu]
    by_cases e : j = 0
    · subst e; simp
    · simp [e, upI]
  | some p =>
    obtain ⟨m, hm, hk⟩ := hW.par _ _ _ hj hu
    refine ⟨fun h => ?_, fun _ => ⟨has_some hm, ?_, ?_⟩, r3, ?_, fun h => hW.leaf _ _ hj h⟩
    · simp only [upI] at h; omega
    · rw [indexOf_kid hj hu hm hk]; omega
    · show T.tagOf (p : Int) ≠ 0
      rw [tagOf_nat hm]
      intro e
      rw [hW.leaf _ _ hm e] at hk
      cases hk
    · show _ = (_ || (decide (0 ≤ (p : Int)) && T.live (p : Int)))
      rw [live_nat hj, live_nat hm, hW.within_step hj, hu]
      by_cases e : j = 0
      · subst e; simp
      · simp [e]

/-! ### DomApart -/
theorem WF.plain0 (hW : T.WF) {T' : DT} (hW' : T'.WF) {o : Nat} (ho : ∀ i n, T.at_ i = some n → ¬ Anc T o i → (T'.at_ i).map Nd.low = some n.low) (hx : ¬ Anc T o 0) : T'.plain 0 = T.plain 0 := by
  obtain ⟨m, hm, _⟩ := hW.host
  obtain ⟨m', hm', _⟩ := hW'.host
  have h1 := plain_nat hm
  have h2 := plain_nat hm'
  have h3 := (hW.plain_apart ho fuel 0 ⟨m, hm⟩ hx).1
  exact h2.trans (h3.trans h1.symm)
theorem WF.put_apart (hW : T.WF) {i : Nat} {n : Nd} (hi : T.at_ i = some n) (n' : Nd) (hW' : (T.put i (some n')).WF) (hl : T.live i = false) : (T.put i (some n')).plain 0 = T.plain 0 := by
  refine hW.plain0 hW' (o := i) (fun j m hj hx => ?_) fun h => ?_
  · rw [at_put_ne _ (fun e : j = i => hx (e ▸ .refl _)), hj]; rfl
  · rw [(hW.live_iff hi).2 h] at hl; cases hl
theorem WF.setAttrs_apart (hW : T.WF) {id : Int} (hl : T.live id = false) (al : List (Bytes × Bytes)) : (T.setAttrs id al).2.plain 0 = T.plain 0 := by
  have hW' := hW.setAttrs id al
  unfold DT.setAttrs at hW' ⊢
  cases hn : T.get id with
  | none => rfl
  | some n =>
    obtain ⟨_, h1, h2⟩ := get_some hn
    rw [hn] at hW'
    dsimp only at hW' ⊢
    split
    · rfl
    · rename_i ht
      rw [if_neg ht] at hW'
      exact hW.put_apart h1 _ hW' (by rw [h2]; exact hl)
theorem WF.setText_apart (hW : T.WF) {id : Int} (hl : T.live id = false) (s : Bytes) : (T.setText id s).2.plain 0 = T.plain 0 := by
  have hW' := hW.setText id s
  unfold DT.setText at hW' ⊢
  cases hn : T.get id with
  | none => rfl
  | some n =>
    obtain ⟨_, h1, h2⟩ := get_some hn
    rw [hn] at hW'
    dsimp only at hW' ⊢
    split
    · rfl
    · rename_i ht
      rw [if_neg ht] at hW'
      split
      · rfl
      · rename_i hs
        rw [if_neg hs] at hW'
        exact hW.put_apart h1 _ hW' (by rw [h2]; exact hl)
theorem WF.setTag_apart (hW : T.WF) {id : Int} (hl : T.live id = false) (tag : Int) : (T.setTag id tag).2.plain 0 = T.plain 0 := by
  have hW' := hW.setTag id tag
  unfold DT.setTag at hW' ⊢
  cases hn : T.get id with
  | none => rfl
  | some n =>
    obtain ⟨_, h1, h2⟩ := get_some hn
    rw [hn] at hW'
    dsimp only at hW' ⊢
    split
    · rfl
    · rename_i ht
      rw [if_neg ht] at hW'
      split
      · rfl
      · rename_i hs
        rw [if_neg hs] at hW'
        exact hW.put_apart h1 _ hW' (by rw [h2]; exact hl)
theorem WF.remove_apart (hW : T.WF) {id : Int} (hl : T.live id = false) : (T.remove id).2.plain 0 = T.plain 0 := by
  rcases remove_cases hW id with ⟨_, e⟩ | ⟨n, _, _, e⟩ | ⟨n, up, p, hn, hu, hp, _, e⟩
  · rw [e]
  · rw [e]
  · obtain ⟨_, h1, h2⟩ := get_some hn
    have hW' := hW.removeAt h1 hu hp
    rw [e]
    refine hW.plain0 hW' (hW.remove_low h1 hu hp) fun h => ?_
    rw [← h2, (hW.live_iff h1).2 (.step h1 hu h)] at hl
    cases hl
/-- A node loose from the host is not live any more when only it was changed. -/
theorem live_put {i : Nat} {n n' : Nd} (hi : T.at_ i = some n) (hu : n'.up = n.up) (id : Int) : (T.put i (some n')).live id = T.live id := by
  have hat : ∀ j, ((T.put i (some n')).at_ j).isSome = (T.at_ j).isSome := fun j => by
    by_cases e : j = i
    · subst e; rw [at_put_same hi, hi]; rfl
    · rw [at_put_ne _ e]
  have hup : ∀ j, (T.put i (some n')).up j = T.up j := fun j => by
    unfold up
    by_cases e : j = i
    · subst e; rw [at_put_same hi, hi]; exact hu
    · rw [at_put_ne _ e]
  unfold live has get within
  have hw := (depth_congr (T := T) (T' := T.put i (some n')) (fun _ => True) (fun j _ => ⟨hup j, fun _ _ => trivial⟩) fuel id.toNat trivial).2 0
  rw [hw]
  by_cases h : id < 0
  · simp [h]
  · rw [if_neg h, if_neg h, hat]
theorem setText_live (id : Int) (s : Bytes) (i : Int) : (T.setText id s).2.live i = T.live i := by
  unfold DT.setText
  cases hn : T.get id with
  | none => rfl
  | some n =>
    obtain ⟨_, h1, _⟩ := get_some hn
    dsimp only
    split
    · rfl
    · split
      · rfl
      · exact live_put h1 (n' := { n with text := s }) rfl i
theorem setAttrs_live (id : Int) (al : List (Bytes × Bytes)) (i : Int) : (T.setAttrs id al).2.live i = T.live i := by
  unfold DT.setAttrs
  cases hn : T.get id with
  | none => rfl
  | some n =>
    obtain ⟨_, h1, _⟩ := get_some hn
    dsimp only
    split
    · rfl
    · exact live_put h1 (n' := { n with attrs := al }) rfl i
theorem setTag_live (id tag : Int) (i : Int) : (T.setTag id tag).2.live i = T.live i := by
  unfold DT.setTag
  cases hn : T.get id with
  | none => rfl
  | some n =>
    obtain ⟨_, h1, _⟩ := get_some hn
    dsimp only
    split
    · rfl
    · split
      · rfl
      · exact live_put h1 (n' := { n with tag := tag }) rfl i

/-! ### DomBack -/
theorem WF.back1 (hW : T.WF) {id : Int} (h : T.has id = true) (hu : 0 ≤ T.upOf id) :
    (T.remove id).1 = 0 ∧ (T.remove id).2.upOf id = -1 ∧ (T.remove id).2.indexOf id = -1 ∧ (T.remove id).2.depth id = 0 ∧ (T.remove id).2.plain id = T.plain id ∧ (T.remove id).2.insert (T.upOf id) (T.indexOf id) id = (0, T) := by
  obtain ⟨i, n, rfl, hi⟩ := has_get h
  rw [upOf_nat hi] at hu
  obtain ⟨up, hup⟩ : ∃ up, n.up = some up := by
    cases hx : n.up with
    | none => rw [hx] at hu; simp [upI] at hu
    | some p => exact ⟨p, rfl⟩
  obtain ⟨p, hp, hm⟩ := hW.par _ _ _ hi hup
  have hR : T.remove (i : Int) = (0, T.removeAt i up n p) := by
    rcases remove_cases hW (i : Int) with ⟨hn, _⟩ | ⟨n', hn, h1, _⟩ | ⟨n', up', p', hn, h1, h2, h3, e⟩
    · rw [get_nat, hi] at hn; cases hn
    · rw [get_nat, hi] at hn; cases hn; rw [hup] at h1; cases h1
    · rw [get_nat, hi] at hn; cases hn
      rw [hup] at h1; cases h1
      rw [hp] at h2; cases h2
      rw [e]; simp
  rw [hR]
  have hW' := hW.removeAt hi hup hp
  have hne := hW.up_ne hi hup
  have hii : (T.removeAt i up n p).at_ i = some { n with up := none } := by rw [at_removeAt hi hp, if_pos rfl]
  have hpp : (T.removeAt i up n p).at_ up = some { p with kids := p.kids.erase i } := by rw [at_removeAt hi hp, if_neg hne, if_pos rfl]
  refine ⟨rfl, by rw [upOf_nat hii]; rfl, indexOf_root hii rfl, by rw [depth_nat hii, hW'.depth_root hii rfl]; rfl, ?_, ?_⟩
  · rw [plain_nat hii, plain_nat hi, (hW.remove_self hi hup hp fuel).1]
  · rw [upOf_nat hi, hup, indexOf_kid hi hup hp hm]
    have htag : p.tag ≠ 0 := fun e => by rw [hW.leaf _ _ hp e] at hm; cases hm
    have h0 : i ≠ 0 := fun e => by
      obtain ⟨q, hq, _, hqu⟩ := hW.host
      rw [e, hq] at hi; cases hi; rw [hqu] at hup; cases hup
    have hlen : p.kids.idxOf i ≤ (p.kids.erase i).length := by
      have := List.idxOf_lt_length_iff.2 hm
      rw [List.length_erase_of_mem hm]; omega
    have hna : ¬ Anc (T.removeAt i up n p) up i := fun hx => by
      have : Anc T up i := anc_mono (T := T.removeAt i up n p) (fun j m hj hu' => by
        rw [at_removeAt hi hp] at hj
        split at hj
        · cases hj; exact absurd rfl hu'
        · split at hj
          · rename_i e; subst e; cases hj; exact ⟨p, hp, rfl⟩
          · exact ⟨m, hj, rfl⟩) hx
      exact hW.no_loop hi hup this
    have hdep : (T.removeAt i up n p).depthF fuel up = T.depthF fuel up := by
      refine (depth_congr (T := T) (T' := T.removeAt i up n p) (fun j => ¬ Anc T j i) (fun j hj => ⟨?_, fun q hq => ?_⟩) fuel up (hW.no_loop hi hup)).1
      · have e : j ≠ i := fun e => hj (e ▸ .refl _)
        unfold DT.up
        rw [at_removeAt hi hp, if_neg e]
        split
        · rename_i e'; rw [e', hp]; rfl
        · rfl
      · intro hx
        cases hj' : T.at_ j with
        | none => rw [DT.up, hj'] at hq; cases hq
        | some m =>
          rw [up_of hj'] at hq
          exact hj (.step hj' hq hx)
    have hhe := (hW.remove_self hi hup hp fuel).2
    have hins : (T.removeAt i up n p).insert (upI (some up)) (p.kids.idxOf i : Int) (i : Int) = (0, (T.removeAt i up n p).insertAt up (p.kids.idxOf i) i { p with kids := p.kids.erase i } { n with up := none }) := by
      unfold DT.insert
      show (match (T.removeAt i up n p).get (up : Int), (T.removeAt i up n p).get (i : Int) with | some p, some k => _ | _, _ => _) = _
      rw [get_nat, get_nat, hpp, hii]
      dsimp only
      rw [if_neg htag, if_neg (by simp only [upI, not_or]; omega), if_neg (by
        show ¬ ((T.removeAt i up n p).within (upI (some up)).toNat (i : Int).toNat = true)
        rw [Int.toNat_natCast]
        show ¬ ((T.removeAt i up n p).within ((up : Nat) : Int).toNat i = true)
        rw [Int.toNat_natCast, (hW'.within_not hpp _).2 hna]; simp), if_neg (by
        show ¬ ((T.removeAt i up n p).dep < (T.removeAt i up n p).depth ((up : Nat) : Int) + 1 + (T.removeAt i up n p).height (i : Int))
        rw [depth_nat hpp, height_nat hii, hdep, hhe]
        have h1 := hW.height_dep hi
        have h2 := hW.depth_up hi hup
        show ¬ (T.dep < _)
        omega)]
      show (0, (T.removeAt i up n p).insertAt ((up : Nat) : Int).toNat ((p.kids.idxOf i : Nat) : Int).toNat ((i : Nat) : Int).toNat _ _) = _
      simp only [Int.toNat_natCast]
    rw [hins, insert_remove hi hup hp hne hm]

theorem WF.back2 (hW : T.WF) {parent pos id : Int} (h : (T.insert parent pos id).1 = 0) :
    (T.insert parent pos id).2.upOf id = parent ∧ (T.insert parent pos id).2.indexOf id = pos ∧ (T.insert parent pos id).2.plain id = T.plain id ∧ (T.insert parent pos id).2.remove id = (0, T) := by
  have hW' := hW.insert parent pos id
  obtain ⟨p, k, hp, hk, h1, h2, h3, h4, h5, h6, h7, h8⟩ := insert_ok h
  rw [h8] at hW' ⊢
  obtain ⟨p0, hp1, hp2⟩ := get_some hp
  obtain ⟨k0, hk1, hk2⟩ := get_some hk
  have hna := (hW.within_not hp1 _).1 h6
  have hne : parent.toNat ≠ id.toNat := fun e => hna (e ▸ .refl _)
  have hkp : id.toNat ∉ p.kids := fun hx => by
    obtain ⟨m, hm, e⟩ := hW.kid _ _ _ hp1 hx
    rw [hk1] at hm; cases hm; rw [h3] at e; cases e
  generalize hi : id.toNat = i at *
  generalize hj : parent.toNat = j at *
  subst hk2 hp2
  have hii : (T.insertAt j pos.toNat i p k).at_ i = some { k with up := some j } := by rw [at_insertAt hp1 hk1, if_pos rfl]
  have hjj : (T.insertAt j pos.toNat i p k).at_ j = some { p with kids := p.kids.take pos.toNat ++ (i :: p.kids.drop pos.toNat) } := by rw [at_insertAt hp1 hk1, if_neg hne, if_pos rfl]
  have hmem : i ∈ p.kids.take pos.toNat ++ (i :: p.kids.drop pos.toNat) := mem_ins.2 (.inl rfl)
  refine ⟨by rw [upOf_nat hii]; rfl, ?_, ?_, ?_⟩
  · rw [indexOf_kid hii rfl hjj hmem]
    have : (p.kids.take pos.toNat ++ (i :: p.kids.drop pos.toNat)).idxOf i = pos.toNat := by
      rw [List.idxOf_append, if_neg (fun h => hkp (List.mem_of_mem_take h))]
      simp; omega
    show ((p.kids.take pos.toNat ++ (i :: p.kids.drop pos.toNat)).idxOf i : Int) = pos
    rw [this]; omega
  · rw [plain_nat hii, plain_nat hk1, (insert_plain hW hp1 hk1 ⟨k, hk1⟩ hna fuel).1]
  · rcases remove_cases hW' (i : Int) with ⟨hn, _⟩ | ⟨n', hn, h1, _⟩ | ⟨n', up', p', hn, hu', h2', h3', e⟩
    · rw [get_nat, hii] at hn; cases hn
    · rw [get_nat, hii] at hn; cases hn; cases h1
    · rw [get_nat, hii] at hn; cases hn
      cases hu'
      rw [hjj] at h2'; cases h2'
      rw [e, Int.toNat_natCast, remove_insert hp1 hk1 hne h3 hkp]

/-! ### DomGrafts -/
theorem WF.grafts (hW : T.WF) (parent pos : Int) (n : PNode) :
    (∃ e, e ≠ 0 ∧ T.graft f parent pos n = ((0, e), T)) ∨
    ∃ (id : Nat) (T1 T2 T3 : DT), T.graft f parent pos n = (((id : Int), 0), T1) ∧ T1.plain id = n.turned f ∧ (T1.count : Int) = T.count + n.size ∧ T1.upOf id = parent ∧ T1.indexOf id = pos ∧
      T1.remove id = (0, T2) ∧ T2.upOf id = -1 ∧ T2.plain id = n.turned f ∧ T2.drop id = (0, T3) ∧ T3.has id = false ∧ T3.count = T.count ∧ T3.plain 0 = T.plain 0 ∧ T1.WF ∧ T2.WF ∧ T3.WF := by
  rcases hW.graft_spec (f := f) parent pos n with h | ⟨p, T', id, m, hp, h0, hl, hok, hput, hm, hmu, hpT, hne, hnk, hid0, hWi, hins, hgp, hg⟩
  · exact .inl h
  right
  have h1 : (T'.insert parent pos id).1 = 0 := by rw [hins]
  obtain ⟨b1, b2, b3, b4⟩ := hput.wf.back2 h1
  rw [hins] at b1 b2 b3 b4
  have hpl : T'.plain (id : Int) = n.turned f := by rw [plain_nat hm, hput.plain]
  have hd : T'.drop (id : Int) = (0, T'.dropped id) := by
    unfold DT.drop
    rw [get_nat, hm]
    dsimp only
    rw [if_neg (by rw [hmu]; simp only [upI, not_or]; omega)]
    simp
  have hWd := hput.wf.dropped hm hmu hid0
  have hroot : ∀ i q, Anc T' i id → T.at_ i = some q → False := by
    intro i q h
    generalize hid' : id = o at h
    induction h generalizing q with
    | refl i => intro hq; subst hid'; rw [hput.new] at hq; cases hq
    | @step i p' o n' hi hu _ ih =>
      intro hq
      have := hput.grown.at_ _ _ hq
      rw [hi] at this; cases this
      obtain ⟨q', hq', _⟩ := hW.par _ _ _ hq hu
      exact ih q' hid' hq'
  have hat : ∀ j, (T'.dropped id).at_ j = T.at_ j := by
    intro j
    cases hj : T.at_ j with
    | some q => exact (hput.wf.at_dropped _ _).2 ⟨hput.grown.at_ _ _ hj, fun h => hroot _ _ h hj⟩
    | none =>
      cases hj' : (T'.dropped id).at_ j with
      | none => rfl
      | some q =>
        obtain ⟨a1, a2⟩ := (hput.wf.at_dropped _ _).1 hj'
        exact absurd (hput.within _ _ a1 hj) a2
  refine ⟨id, _, T', T'.dropped id, hg, b3.trans hpl, ?_, b1, b2, b4, by rw [upOf_nat hm, hmu]; rfl, hpl, hd, ?_, count_grown fun j => by rw [hat j], ?_, hWi, hput.wf, hWd⟩
  · rw [count_insertAt hpT hm hne, hput.count]; omega
  · rw [has_nat, hat, hput.new]; rfl
  · obtain ⟨q, hq, _⟩ := hW.host
    have hq' : (T'.dropped id).at_ 0 = some q := by rw [hat, hq]
    have h1 := plain_nat hq
    have h2 := plain_nat hq'
    have h3 := (plain_congr (T := T) (T' := T'.dropped id) (fun _ => True) (fun i _ => ⟨by rw [hat], fun _ _ _ _ => trivial⟩) fuel 0 trivial).1
    exact h2.trans (h3.trans h1.symm)
end DT
end Go.Proofs.Ytnnjlpkjpbbklaa
