/-
  The tree as plain data: Insert, Remove, Drop leave it sound; what they leave of it. No program in sight. Conditions: none.
-/
import Derived.Test.YtnnjlpkjpbbklaaDomWF
set_option linter.unusedVariables false
set_option linter.unusedSimpArgs false
namespace Go.Proofs.Ytnnjlpkjpbbklaa
namespace DT
variable {T : DT}

theorem put_nodes_length (T : DT) (i : Nat) (x : Option Nd) : (T.put i x).nodes.length = T.nodes.length := by show (T.nodes.set i x).length = _; rw [List.length_set]

theorem at_insertAt {parent a kid : Nat} {p k : Nd} (hp : T.at_ parent = some p) (hk : T.at_ kid = some k) (j : Nat) :
    (T.insertAt parent a kid p k).at_ j = if j = kid then some { k with up := some parent } else if j = parent then some { p with kids := p.kids.take a ++ (kid :: p.kids.drop a) } else T.at_ j := by
  unfold insertAt
  rw [at_put' _ kid j _ (by rw [put_nodes_length]; exact at_lt hk), at_put' _ parent j _ (at_lt hp)]

theorem mem_ins {l : List Nat} {a x k : Nat} : x ∈ l.take a ++ (k :: l.drop a) ↔ x = k ∨ x ∈ l := by
  rw [List.mem_append, List.mem_cons]
  have : x ∈ l ↔ x ∈ l.take a ∨ x ∈ l.drop a := by rw [← List.mem_append, List.take_append_drop]
  rw [this]
  constructor
  · rintro (h | h | h)
    · exact .inr (.inl h)
    · exact .inl h
    · exact .inr (.inr h)
  · rintro (h | h | h)
    · exact .inr (.inl h)
    · exact .inl h
    · exact .inr (.inr h)

theorem nodup_ins {l : List Nat} {a k : Nat} (h : l.Nodup) (hk : k ∉ l) : (l.take a ++ (k :: l.drop a)).Nodup := by
  have h' : (l.take a ++ l.drop a).Nodup := by rw [List.take_append_drop]; exact h
  rw [List.nodup_append] at h' ⊢
  have hk1 : k ∉ l.take a := fun e => hk (List.mem_of_mem_take e)
  have hk2 : k ∉ l.drop a := fun e => hk (List.mem_of_mem_drop e)
  refine ⟨h'.1, List.nodup_cons.2 ⟨hk2, h'.2.1⟩, fun x hx y hy e => ?_⟩
  subst e
  rcases List.mem_cons.1 hy with rfl | hy
  · exact hk1 hx
  · exact h'.2.2 x hx x hy rfl

/-- A loose node is another one's kid. -/
theorem WF.insertAt (hW : T.WF) {parent a kid : Nat} {p k : Nd} (hp : T.at_ parent = some p) (hk : T.at_ kid = some k) (ht : p.tag ≠ 0) (h0 : kid ≠ 0) (hu : k.up = none) (hn : ¬ Anc T parent kid)
    (hd : (T.depthF fuel parent : Int) + 1 + T.heightF fuel kid ≤ T.dep) : (T.insertAt parent a kid p k).WF := by
  have hne : parent ≠ kid := fun e => hn (e ▸ .refl _)
  have hkp : kid ∉ p.kids := fun h => by
    obtain ⟨m, hm, e⟩ := hW.kid _ _ _ hp h
    rw [hk] at hm; cases hm; rw [hu] at e; cases e
  have hsome : ∀ j m, (T.insertAt parent a kid p k).at_ j = some m → ∃ m0, T.at_ j = some m0 ∧ (j = kid ∧ m0.up = none ∧ m.up = some parent ∨ j ≠ kid ∧ m.up = m0.up) ∧ (j = parent ∧ m.kids = m0.kids.take a ++ (kid :: m0.kids.drop a) ∨ j ≠ parent ∧ m.kids = m0.kids) ∧ m.tag = m0.tag ∧ m.text = m0.text := by
    intro j m hj
    rw [at_insertAt hp hk] at hj
    split at hj
    · rename_i e; subst e; cases hj; exact ⟨k, hk, .inl ⟨rfl, hu, rfl⟩, .inr ⟨fun e => hne e.symm, rfl⟩, rfl, rfl⟩
    · rename_i e
      split at hj
      · rename_i e'; subst e'; cases hj; exact ⟨p, hp, .inr ⟨e, rfl⟩, .inl ⟨rfl, rfl⟩, rfl, rfl⟩
      · rename_i e'; exact ⟨m, hj, .inr ⟨e, rfl⟩, .inr ⟨e', rfl⟩, rfl, rfl⟩
  have hback : ∀ j m0, T.at_ j = some m0 → ∃ m, (T.insertAt parent a kid p k).at_ j = some m ∧ (j = kid ∧ m.up = some parent ∨ j ≠ kid ∧ m.up = m0.up) ∧ (∀ x, x ∈ m0.kids → x ∈ m.kids) ∧ (j = parent → kid ∈ m.kids) ∧ m.tag = m0.tag := by
    intro j m0 hj
    rw [at_insertAt hp hk]
    by_cases e : j = kid
    · subst e; rw [if_pos rfl]; rw [hk] at hj; cases hj; exact ⟨_, rfl, .inl ⟨rfl, rfl⟩, fun _ h => h, fun e => absurd e.symm hne, rfl⟩
    · rw [if_neg e]
      by_cases e' : j = parent
      · subst e'; rw [if_pos rfl]; rw [hp] at hj; cases hj
        exact ⟨_, rfl, .inr ⟨e, rfl⟩, fun x h => mem_ins.2 (.inr h), fun _ => mem_ins.2 (.inl rfl), rfl⟩
      · rw [if_neg e']; exact ⟨m0, hj, .inr ⟨e, rfl⟩, fun _ h => h, fun h => absurd h e', rfl⟩
  refine hW.of_at rfl rfl (by unfold DT.insertAt; rw [put_nodes_length, put_nodes_length]; exact hW.len) ?_ ?_ ?_ ?_ ?_
  · obtain ⟨m, hm, h1, h2⟩ := hW.host
    obtain ⟨m', hm', h3, _, _, h4⟩ := hback 0 m hm
    refine ⟨m', hm', h4.trans h1, ?_⟩
    rcases h3 with ⟨e, _⟩ | ⟨_, e⟩
    · exact absurd e.symm h0
    · exact e.trans h2
  · intro j m x hj hx
    obtain ⟨m0, hm0, h1, h2, _⟩ := hsome j m hj
    have hx' : x = kid ∧ j = parent ∨ x ∈ m0.kids := by
      rcases h2 with ⟨e, e'⟩ | ⟨_, e'⟩
      · rw [e', mem_ins] at hx
        rcases hx with hx | hx
        · exact .inl ⟨hx, e⟩
        · exact .inr hx
      · rw [e'] at hx; exact .inr hx
    rcases hx' with ⟨rfl, rfl⟩ | hx
    · obtain ⟨m', hm', h3, _⟩ := hback _ _ hk
      refine ⟨m', hm', ?_⟩
      rcases h3 with ⟨_, e⟩ | ⟨e, _⟩
      · exact e
      · exact absurd rfl e
    · obtain ⟨q, hq, hqu⟩ := hW.kid _ _ _ hm0 hx
      obtain ⟨q', hq', h3, _⟩ := hback _ _ hq
      refine ⟨q', hq', ?_⟩
      rcases h3 with ⟨e, _⟩ | ⟨_, e⟩
      · subst e; rw [hk] at hq; cases hq; rw [hu] at hqu; cases hqu
      · exact e.trans hqu
  · intro j m q hj hq
    obtain ⟨m0, hm0, h1, h2, _⟩ := hsome j m hj
    rcases h1 with ⟨rfl, _, e⟩ | ⟨_, e⟩
    · rw [e] at hq; cases hq
      obtain ⟨m', hm', _, _, h3, _⟩ := hback _ _ hp
      exact ⟨m', hm', h3 rfl⟩
    · obtain ⟨n, hn1, hn2⟩ := hW.par _ _ _ hm0 (e.symm.trans hq)
      obtain ⟨m', hm', _, h3, _⟩ := hback _ _ hn1
      exact ⟨m', hm', h3 _ hn2⟩
  · intro j m hj
    obtain ⟨m0, hm0, h1, h2, e3, e4⟩ := hsome j m hj
    obtain ⟨a1, a2, a3, a4, a5⟩ := hW.node_ok hm0
    rw [e3, e4]
    rcases h2 with ⟨rfl, e⟩ | ⟨_, e⟩
    · rw [hp] at hm0; cases hm0
      rw [e]
      exact ⟨nodup_ins a1 hkp, fun e => absurd e ht, a3, a4, a5⟩
    · rw [e]; exact ⟨a1, a2, a3, a4, a5⟩
  · have hpd := hW.ranks parent p hp
    have hkd := hW.depth_root hk hu
    classical
    refine ⟨fun j => if Anc T j kid then T.depthF fuel j + T.depthF fuel parent + 1 else T.depthF fuel j, fun j m hj => ?_⟩
    obtain ⟨m0, hm0, h1, h2, _⟩ := hsome j m hj
    obtain ⟨r1, r2, r3⟩ := hW.ranks _ _ hm0
    refine ⟨fun e => ?_, fun q hq => ?_, ?_⟩
    · rcases h1 with ⟨_, _, e'⟩ | ⟨e1, e'⟩
      · rw [e'] at e; cases e
      · have hnu := e'.symm.trans e
        have hna : ¬ Anc T j kid := fun h => e1 (h.root hm0 hnu)
        simp only [if_neg hna]
        exact r1 hnu
    · rcases h1 with ⟨rfl, _, e'⟩ | ⟨e1, e'⟩
      · rw [e'] at hq; cases hq
        simp only [if_neg hn, if_pos (Anc.refl _)]
        omega
      · have hnq := e'.symm.trans hq
        have h3 := r2 q hnq
        by_cases hna : Anc T j kid
        · have hqa : Anc T q kid := by
            rcases hna.step_inv hm0 hnq with e | h
            · exact absurd e e1
            · exact h
          simp only [if_pos hna, if_pos hqa]
          omega
        · have hqa : ¬ Anc T q kid := fun h => hna (.step hm0 hnq h)
          simp only [if_neg hna, if_neg hqa]
          exact h3
    · by_cases hna : Anc T j kid
      · simp only [if_pos hna]
        have := (hW.anc_depth hm0 hna).1
        omega
      · simp only [if_neg hna]; exact r3

theorem insert_ok {parent pos kid : Int} (h : (T.insert parent pos kid).1 = 0) :
    ∃ p k, T.get parent = some p ∧ T.get kid = some k ∧ p.tag ≠ 0 ∧ kid ≠ 0 ∧ k.up = none ∧ 0 ≤ pos ∧ pos ≤ p.kids.length ∧ T.within parent.toNat kid.toNat = false ∧ T.depth parent + 1 + T.height kid ≤ T.dep ∧
      T.insert parent pos kid = (0, T.insertAt parent.toNat pos.toNat kid.toNat p k) := by
  unfold insert at h ⊢
  split at h
  · rename_i p k hp hk
    split at h
    · cases h
    · split at h
      · cases h
      · split at h
        · cases h
        · split at h
          · cases h
          · rename_i h1 h2 h3 h4
            simp only [not_or] at h2
            refine ⟨p, k, hp, hk, h1, h2.1, ?_, by omega, by omega, by simpa using h3, by omega, ?_⟩
            · cases hu : k.up with
              | none => rfl
              | some q => rw [hu] at h2; simp only [upI] at h2; omega
            · rw [if_neg h1, if_neg (by simp only [not_or]; exact h2), if_neg h3, if_neg h4]
  · cases h
theorem insert_no {parent pos kid : Int} (h : (T.insert parent pos kid).1 ≠ 0) : (T.insert parent pos kid).2 = T := by
  unfold insert at h ⊢
  split
  · rename_i p k hp hk
    rw [hp, hk] at h
    dsimp only at h
    split
    · rfl
    · split
      · rfl
      · split
        · rfl
        · split
          · rfl
          · rename_i h1 h2 h3 h4
            rw [if_neg h1, if_neg h2, if_neg h3, if_neg h4] at h
            exact absurd rfl h
  · rfl

theorem depth_has {id : Int} {n : Nd} (h : T.get id = some n) : T.depth id = (T.depthF fuel id.toNat : Int) := by unfold depth has; rw [h]; rfl
theorem height_has {id : Int} {n : Nd} (h : T.get id = some n) : T.height id = (T.heightF fuel id.toNat : Int) := by unfold height has; rw [h]; rfl
theorem plain_has {id : Int} {n : Nd} (h : T.get id = some n) : T.plain id = T.plainF fuel id.toNat := by unfold plain has; rw [h]; rfl

theorem WF.insert (hW : T.WF) (parent pos kid : Int) : (T.insert parent pos kid).2.WF := by
  by_cases h : (T.insert parent pos kid).1 = 0
  · obtain ⟨p, k, hp, hk, h1, h2, h3, h4, h5, h6, h7, h8⟩ := insert_ok h
    rw [h8]
    rw [depth_has hp, height_has hk] at h7
    obtain ⟨_, hp', _⟩ := get_some hp
    obtain ⟨_, hk', _⟩ := get_some hk
    exact hW.insertAt hp' hk' h1 (by omega) h3 ((hW.within_not hp' _).1 h6) h7
  · rw [insert_no h]; exact hW

/-- remove, opened: of a node that has a parent. -/
def removeAt (T : DT) (id up : Nat) (n p : Nd) : DT := (T.put up (some { p with kids := p.kids.erase id })).put id (some { n with up := none })
theorem at_removeAt {id up : Nat} {n p : Nd} (hn : T.at_ id = some n) (hp : T.at_ up = some p) (j : Nat) :
    (T.removeAt id up n p).at_ j = if j = id then some { n with up := none } else if j = up then some { p with kids := p.kids.erase id } else T.at_ j := by
  unfold removeAt
  rw [at_put' _ id j _ (by rw [put_nodes_length]; exact at_lt hn), at_put' _ up j _ (at_lt hp)]

theorem remove_cases (hW : T.WF) (id : Int) : (T.get id = none ∧ T.remove id = (2, T)) ∨ (∃ n, T.get id = some n ∧ n.up = none ∧ T.remove id = (1, T)) ∨
    ∃ n up p, T.get id = some n ∧ n.up = some up ∧ T.at_ up = some p ∧ id.toNat ∈ p.kids ∧ T.remove id = (0, T.removeAt id.toNat up n p) := by
  unfold remove
  cases hn : T.get id with
  | none => exact .inl ⟨rfl, rfl⟩
  | some n =>
    right
    cases hu : n.up with
    | none => exact .inl ⟨n, rfl, hu, by simp only [hu]⟩
    | some up =>
      obtain ⟨_, h1, _⟩ := get_some hn
      obtain ⟨p, hp, hm⟩ := hW.par _ _ _ h1 hu
      exact .inr ⟨n, up, p, rfl, hu, hp, hm, by simp only [hu, hp]; rfl⟩

/-- A kid is loose. -/
theorem WF.removeAt (hW : T.WF) {id up : Nat} {n p : Nd} (hn : T.at_ id = some n) (hu : n.up = some up) (hp : T.at_ up = some p) : (T.removeAt id up n p).WF := by
  have hne : up ≠ id := hW.up_ne hn hu
  have hnd := hW.nodup _ _ hp
  have hsome : ∀ j m, (T.removeAt id up n p).at_ j = some m → ∃ m0, T.at_ j = some m0 ∧ (j = id ∧ m.up = none ∨ j ≠ id ∧ m.up = m0.up) ∧ (j = up ∧ m.kids = m0.kids.erase id ∨ j ≠ up ∧ m.kids = m0.kids) ∧ m.tag = m0.tag ∧ m.text = m0.text := by
    intro j m hj
    rw [at_removeAt hn hp] at hj
    split at hj
    · rename_i e; subst e; cases hj; exact ⟨n, hn, .inl ⟨rfl, rfl⟩, .inr ⟨fun e => hne e.symm, rfl⟩, rfl, rfl⟩
    · rename_i e
      split at hj
      · rename_i e'; subst e'; cases hj; exact ⟨p, hp, .inr ⟨e, rfl⟩, .inl ⟨rfl, rfl⟩, rfl, rfl⟩
      · rename_i e'; exact ⟨m, hj, .inr ⟨e, rfl⟩, .inr ⟨e', rfl⟩, rfl, rfl⟩
  have hback : ∀ j m0, T.at_ j = some m0 → ∃ m, (T.removeAt id up n p).at_ j = some m ∧ (j = id ∧ m.up = none ∨ j ≠ id ∧ m.up = m0.up) ∧ (∀ x, x ≠ id → x ∈ m0.kids → x ∈ m.kids) ∧ m.tag = m0.tag := by
    intro j m0 hj
    rw [at_removeAt hn hp]
    by_cases e : j = id
    · subst e; rw [if_pos rfl]; rw [hn] at hj; cases hj; exact ⟨_, rfl, .inl ⟨rfl, rfl⟩, fun _ _ h => h, rfl⟩
    · rw [if_neg e]
      by_cases e' : j = up
      · subst e'; rw [if_pos rfl]; rw [hp] at hj; cases hj
        exact ⟨_, rfl, .inr ⟨e, rfl⟩, fun x hx h => (List.mem_erase_of_ne hx).2 h, rfl⟩
      · rw [if_neg e']; exact ⟨m0, hj, .inr ⟨e, rfl⟩, fun _ _ h => h, rfl⟩
  have hkid : ∀ j m0 x, T.at_ j = some m0 → x ∈ m0.kids → x = id → j = up := by
    intro j m0 x hj hx e
    subst e
    obtain ⟨q, hq, e⟩ := hW.kid _ _ _ hj hx
    rw [hn] at hq; cases hq; rw [hu] at e; exact (Option.some.inj e).symm
  refine hW.of_at rfl rfl (by unfold DT.removeAt; rw [put_nodes_length, put_nodes_length]; exact hW.len) ?_ ?_ ?_ ?_ ?_
  · obtain ⟨m, hm, h1, h2⟩ := hW.host
    obtain ⟨m', hm', h3, _, h4⟩ := hback 0 m hm
    refine ⟨m', hm', h4.trans h1, ?_⟩
    rcases h3 with ⟨_, e⟩ | ⟨_, e⟩
    · exact e
    · exact e.trans h2
  · intro j m x hj hx
    obtain ⟨m0, hm0, h1, h2, _⟩ := hsome j m hj
    have hx' : x ≠ id ∧ x ∈ m0.kids := by
      rcases h2 with ⟨e, e'⟩ | ⟨e, e'⟩
      · subst e
        rw [hp] at hm0; cases hm0
        rw [e'] at hx
        exact ⟨fun e => by subst e; exact List.Nodup.not_mem_erase hnd hx, List.mem_of_mem_erase hx⟩
      · rw [e'] at hx; exact ⟨fun e2 => e (hkid _ _ _ hm0 hx e2), hx⟩
    obtain ⟨q, hq, hqu⟩ := hW.kid _ _ _ hm0 hx'.2
    obtain ⟨q', hq', h3, _⟩ := hback _ _ hq
    refine ⟨q', hq', ?_⟩
    rcases h3 with ⟨e, _⟩ | ⟨_, e⟩
    · exact absurd e hx'.1
    · exact e.trans hqu
  · intro j m q hj hq
    obtain ⟨m0, hm0, h1, h2, _⟩ := hsome j m hj
    rcases h1 with ⟨_, e⟩ | ⟨e1, e⟩
    · rw [e] at hq; cases hq
    · obtain ⟨n', hn1, hn2⟩ := hW.par _ _ _ hm0 (e.symm.trans hq)
      obtain ⟨m', hm', _, h3, _⟩ := hback _ _ hn1
      exact ⟨m', hm', h3 _ e1 hn2⟩
  · intro j m hj
    obtain ⟨m0, hm0, h1, h2, e3, e4⟩ := hsome j m hj
    obtain ⟨a1, a2, a3, a4, a5⟩ := hW.node_ok hm0
    rw [e3, e4]
    rcases h2 with ⟨_, e⟩ | ⟨_, e⟩
    · rw [e]
      exact ⟨a1.erase _, fun e => by rw [a2 e]; rfl, a3, a4, a5⟩
    · rw [e]; exact ⟨a1, a2, a3, a4, a5⟩
  · classical
    refine ⟨fun j => if Anc T j id then T.depthF fuel j - T.depthF fuel id else T.depthF fuel j, fun j m hj => ?_⟩
    obtain ⟨m0, hm0, h1, h2, _⟩ := hsome j m hj
    obtain ⟨r1, r2, r3⟩ := hW.ranks _ _ hm0
    refine ⟨fun e => ?_, fun q hq => ?_, ?_⟩
    · rcases h1 with ⟨e1, e'⟩ | ⟨e1, e'⟩
      · subst e1; simp [Anc.refl]
      · have hnu := e'.symm.trans e
        have hna : ¬ Anc T j id := fun h => e1 (h.root hm0 hnu)
        simp only [if_neg hna]
        exact r1 hnu
    · rcases h1 with ⟨rfl, e'⟩ | ⟨e1, e'⟩
      · rw [e'] at hq; cases hq
      · have hnq := e'.symm.trans hq
        have h3 := r2 q hnq
        by_cases hna : Anc T j id
        · have hqa : Anc T q id := by
            rcases hna.step_inv hm0 hnq with e | h
            · exact absurd e e1
            · exact h
          obtain ⟨mq, hmq, _⟩ := hW.par _ _ _ hm0 hnq
          have := (hW.anc_depth hmq hqa).2.1
          simp only [if_pos hna, if_pos hqa]
          omega
        · have hqa : ¬ Anc T q id := fun h => hna (.step hm0 hnq h)
          simp only [if_neg hna, if_neg hqa]
          exact h3
    · by_cases hna : Anc T j id
      · simp only [if_pos hna]; omega
      · simp only [if_neg hna]; exact r3

theorem WF.remove (hW : T.WF) (id : Int) : (T.remove id).2.WF := by
  rcases remove_cases hW id with ⟨_, e⟩ | ⟨n, _, _, e⟩ | ⟨n, up, p, hn, hu, hp, _, e⟩
  · rw [e]; exact hW
  · rw [e]; exact hW
  · rw [e]
    exact hW.removeAt (get_some hn).2.1 hu hp

/-- All that is within a node is none any more. -/
def minus (T : DT) (P : Nat → Bool) : DT := { T with nodes := T.nodes.mapIdx fun j x => if P j then none else x }
theorem at_minus (P : Nat → Bool) (j : Nat) : (T.minus P).at_ j = if P j then none else T.at_ j := by
  unfold minus at_
  simp only [List.getElem?_mapIdx]
  cases T.nodes[j]? with
  | none => simp
  | some x => simp
theorem minus_length (P : Nat → Bool) : (T.minus P).nodes.length = T.nodes.length := by simp [minus]
/-- Drop of chapter 8. -/
def dropped (T : DT) (id : Nat) : DT := T.minus fun j => (T.at_ j).isSome && T.within j id
def drop (T : DT) (id : Int) : Int × DT :=
  match T.get id with
  | none => (2, T)
  | some n => if id = 0 ∨ 0 ≤ upI n.up then (1, T) else (0, T.dropped id.toNat)

theorem WF.at_dropped (hW : T.WF) (id j : Nat) {n : Nd} : (T.dropped id).at_ j = some n ↔ T.at_ j = some n ∧ ¬ Anc T j id := by
  unfold dropped
  rw [at_minus]
  cases hj : T.at_ j with
  | none => simp
  | some m =>
    have := hW.within_anc hj id
    by_cases h : Anc T j id
    · have e := this.2 h
      simp [e, h]
    · have e : T.within j id = false := (hW.within_not hj id).2 h
      simp [e, h]
theorem WF.dropped (hW : T.WF) {id : Nat} {n : Nd} (hn : T.at_ id = some n) (hu : n.up = none) (h0 : id ≠ 0) : (T.dropped id).WF := by
  refine hW.of_at rfl rfl (by unfold DT.dropped; rw [minus_length]; exact hW.len) ?_ ?_ ?_ ?_ ⟨T.depthF fuel, ?_⟩
  · obtain ⟨m, hm, h1, h2⟩ := hW.host
    exact ⟨m, (hW.at_dropped _ _).2 ⟨hm, fun h => h0 (h.root hm h2).symm⟩, h1, h2⟩
  · intro j m x hj hx
    obtain ⟨h1, h2⟩ := (hW.at_dropped _ _).1 hj
    obtain ⟨q, hq, e⟩ := hW.kid _ _ _ h1 hx
    refine ⟨q, (hW.at_dropped _ _).2 ⟨hq, fun h => ?_⟩, e⟩
    rcases h.step_inv hq e with rfl | h
    · rw [hn] at hq; cases hq; rw [hu] at e; cases e
    · exact h2 h
  · intro j m q hj hq
    obtain ⟨h1, h2⟩ := (hW.at_dropped _ _).1 hj
    obtain ⟨m', hm', e⟩ := hW.par _ _ _ h1 hq
    exact ⟨m', (hW.at_dropped _ _).2 ⟨hm', fun h => h2 (.step h1 hq h)⟩, e⟩
  · intro j m hj
    exact hW.node_ok ((hW.at_dropped _ _).1 hj).1
  · intro j m hj
    exact hW.ranks _ _ ((hW.at_dropped _ _).1 hj).1
theorem WF.drop (hW : T.WF) (id : Int) : (T.drop id).2.WF := by
  unfold DT.drop
  cases hn : T.get id with
  | none => exact hW
  | some n =>
    obtain ⟨h0, h1, h2⟩ := get_some hn
    dsimp only
    split
    · exact hW
    · rename_i h
      simp only [not_or] at h
      refine hW.dropped h1 ?_ (by omega)
      cases hu : n.up with
      | none => rfl
      | some q => rw [hu] at h; simp only [upI] at h; omega
end DT
end Go.Proofs.Ytnnjlpkjpbbklaa
