/-
  The tree as plain data: what the calls of chapter 8 leave of what is told: Graft, Remove, Insert, Drop. No program in sight. Conditions: none.
-/
import Derived.Test.YtnnjlpkjpbbklaaDomGraft
set_option linter.unusedVariables false
set_option linter.unusedSimpArgs false
namespace Go.Proofs.Ytnnjlpkjpbbklaa
namespace DT
variable {T : DT} {f : Bytes → Bytes}

theorem ext_at {T T' : DT} (hc : T'.cap = T.cap) (hd : T'.dep = T.dep) (hl : T'.nodes.length = T.nodes.length) (h : ∀ j, T'.at_ j = T.at_ j) : T' = T := by
  obtain ⟨c, d, l⟩ := T
  obtain ⟨c', d', l'⟩ := T'
  simp only at hc hd hl
  subst hc hd
  congr 1
  refine List.ext_getElem hl fun i h1 h2 => ?_
  have := h i
  unfold at_ at this
  simp only [List.getElem?_eq_getElem h1, List.getElem?_eq_getElem h2, Option.getD_some] at this
  exact this

theorem has_nat (i : Nat) : T.has (i : Int) = (T.at_ i).isSome := by unfold has; rw [get_nat]

/-- Parents are the same among P, and P goes up: depth and within are the same. -/
theorem depth_congr {T T' : DT} (P : Nat → Prop) (hP : ∀ i, P i → T'.up i = T.up i ∧ ∀ p, T.up i = some p → P p) : ∀ f i, P i → T'.depthF f i = T.depthF f i ∧ ∀ o, T'.withinF f i o = T.withinF f i o := by
  intro f
  induction f with
  | zero => intro i _; exact ⟨rfl, fun _ => rfl⟩
  | succ f ih =>
    intro i hi
    obtain ⟨h1, h2⟩ := hP i hi
    unfold depthF withinF
    rw [h1]
    cases hu : T.up i with
    | none => exact ⟨rfl, fun _ => rfl⟩
    | some p =>
      obtain ⟨a, b⟩ := ih p (h2 p hu)
      exact ⟨by dsimp only; rw [a], fun o => by dsimp only; rw [b o]⟩

theorem count_grown {T T' : DT} (h : ∀ j : Nat, (T'.at_ j).isSome = (T.at_ j).isSome) : T'.count = T.count := by
  have key : ∀ (l l' : List (Option Nd)), (∀ j : Nat, ((l'[j]?).getD none).isSome = ((l[j]?).getD none).isSome) → l'.countP Option.isSome = l.countP Option.isSome := by
    intro l
    induction l with
    | nil =>
      intro l' h
      rw [List.countP_nil, List.countP_eq_zero]
      intro x hx
      obtain ⟨i, hi, e⟩ := List.mem_iff_getElem.1 hx
      have := h i
      rw [List.getElem?_eq_getElem hi] at this
      simp at this
      rw [← e, this]; simp
    | cons a l ih =>
      intro l' h
      cases l' with
      | nil =>
        rw [List.countP_nil]
        symm
        rw [List.countP_eq_zero]
        intro x hx
        obtain ⟨i, hi, e⟩ := List.mem_iff_getElem.1 hx
        have := h i
        rw [List.getElem?_eq_getElem hi] at this
        simp at this
        rw [← e, this]; simp
      | cons a' l' =>
        have h0 := h 0
        simp at h0
        rw [List.countP_cons, List.countP_cons, ih l' (fun j => by simpa using h (j + 1)), h0]
  exact key T.nodes T'.nodes h

/-! ### Remove -/
theorem WF.remove_low (hW : T.WF) {id up : Nat} {n p : Nd} (hn : T.at_ id = some n) (hu : n.up = some up) (hp : T.at_ up = some p) :
    ∀ i m, T.at_ i = some m → ¬ Anc T up i → ((T.removeAt id up n p).at_ i).map Nd.low = some m.low := by
  intro i m hi hx
  rw [at_removeAt hn hp]
  by_cases e : i = id
  · rw [if_pos e]; subst e; rw [hn] at hi; cases hi; rfl
  · rw [if_neg e, if_neg (fun e' : i = _ => hx (e' ▸ .refl _)), hi]; rfl
theorem WF.remove_plain (hW : T.WF) {id up : Nat} {n p : Nd} (hn : T.at_ id = some n) (hu : n.up = some up) (hp : T.at_ up = some p) {i : Nat} (hi : ∃ m, T.at_ i = some m) (hx : ¬ Anc T up i) (g : Nat) :
    (T.removeAt id up n p).plainF g i = T.plainF g i ∧ (T.removeAt id up n p).heightF g i = T.heightF g i :=
  hW.plain_apart (hW.remove_low hn hu hp) g i hi hx
theorem WF.remove_self (hW : T.WF) {id up : Nat} {n p : Nd} (hn : T.at_ id = some n) (hu : n.up = some up) (hp : T.at_ up = some p) (g : Nat) :
    (T.removeAt id up n p).plainF g id = T.plainF g id ∧ (T.removeAt id up n p).heightF g id = T.heightF g id :=
  hW.remove_plain hn hu hp ⟨n, hn⟩ (hW.no_loop hn hu) g

/-! ### Insert -/
theorem insert_plain (hW : T.WF) {parent a kid : Nat} {p k : Nd} (hp : T.at_ parent = some p) (hk : T.at_ kid = some k) {i : Nat} (hi : ∃ m, T.at_ i = some m) (hx : ¬ Anc T parent i) (g : Nat) :
    (T.insertAt parent a kid p k).plainF g i = T.plainF g i ∧ (T.insertAt parent a kid p k).heightF g i = T.heightF g i := by
  refine hW.plain_apart (o := parent) (fun i m hi hx => ?_) g i hi hx
  rw [at_insertAt hp hk]
  by_cases e : i = kid
  · rw [if_pos e]; subst e; rw [hk] at hi; cases hi; rfl
  · rw [if_neg e, if_neg (fun e' : i = _ => hx (e' ▸ .refl _)), hi]; rfl

theorem erase_ins {l : List Nat} {a k : Nat} (hk : k ∉ l) : (l.take a ++ (k :: l.drop a)).erase k = l := by
  rw [List.erase_append_right _ (fun h => hk (List.mem_of_mem_take h)), List.erase_cons_head, List.take_append_drop]
theorem ins_erase {l : List Nat} {k : Nat} (hk : k ∈ l) : (l.erase k).take (l.idxOf k) ++ (k :: (l.erase k).drop (l.idxOf k)) = l := by
  induction l with
  | nil => cases hk
  | cons x l ih =>
    by_cases e : x = k
    · subst e; simp
    · rcases List.mem_cons.1 hk with h | h
      · exact absurd h.symm e
      · rw [List.erase_cons_tail (by simpa using e), List.idxOf_cons, show (x == k) = false by simpa using e]
        simp only [cond_false]
        simp only [List.take_succ_cons, List.drop_succ_cons, List.cons_append]
        rw [ih h]

/-- Inserted, and removed. -/
theorem remove_insert {parent a kid : Nat} {p k : Nd} (hp : T.at_ parent = some p) (hk : T.at_ kid = some k) (hne : parent ≠ kid) (hu : k.up = none) (hkp : kid ∉ p.kids) :
    (T.insertAt parent a kid p k).removeAt kid parent { k with up := some parent } { p with kids := p.kids.take a ++ (kid :: p.kids.drop a) } = T := by
  have h1 : (T.insertAt parent a kid p k).at_ kid = some { k with up := some parent } := by rw [at_insertAt hp hk, if_pos rfl]
  have h2 : (T.insertAt parent a kid p k).at_ parent = some { p with kids := p.kids.take a ++ (kid :: p.kids.drop a) } := by rw [at_insertAt hp hk, if_neg hne, if_pos rfl]
  refine ext_at rfl rfl (by unfold removeAt insertAt; simp only [put_nodes_length]) fun j => ?_
  rw [at_removeAt h1 h2]
  by_cases e1 : j = kid
  · rw [if_pos e1, e1, hk]; congr 1; rw [← hu]
  · rw [if_neg e1]
    by_cases e2 : j = parent
    · rw [if_pos e2, e2, hp]; congr 1
      simp only [erase_ins hkp]
    · rw [if_neg e2, at_insertAt hp hk, if_neg e1, if_neg e2]
/-- Removed, and inserted where it was. -/
theorem insert_remove {id up : Nat} {n p : Nd} (hn : T.at_ id = some n) (hu : n.up = some up) (hp : T.at_ up = some p) (hne : up ≠ id) (hm : id ∈ p.kids) :
    (T.removeAt id up n p).insertAt up (p.kids.idxOf id) id { p with kids := p.kids.erase id } { n with up := none } = T := by
  have h1 : (T.removeAt id up n p).at_ id = some { n with up := none } := by rw [at_removeAt hn hp, if_pos rfl]
  have h2 : (T.removeAt id up n p).at_ up = some { p with kids := p.kids.erase id } := by rw [at_removeAt hn hp, if_neg hne, if_pos rfl]
  refine ext_at rfl rfl (by unfold removeAt insertAt; simp only [put_nodes_length]) fun j => ?_
  rw [at_insertAt h2 h1]
  by_cases e1 : j = id
  · rw [if_pos e1, e1, hn]; congr 1; rw [← hu]
  · rw [if_neg e1]
    by_cases e2 : j = up
    · rw [if_pos e2, e2, hp]; congr 1
      simp only [ins_erase hm]
    · rw [if_neg e2, at_removeAt hn hp, if_neg e1, if_neg e2]

/-! ### Graft -/
theorem WF.graft_spec (hW : T.WF) (parent pos : Int) (n : PNode) :
    (∃ e, e ≠ 0 ∧ T.graft f parent pos n = ((0, e), T)) ∨
    ∃ p T' id m, T.get parent = some p ∧ 0 ≤ pos ∧ pos ≤ p.kids.length ∧ n.ok f ∧ PutP f T T' id n ∧ T'.at_ id = some m ∧ m.up = none ∧ T'.at_ parent.toNat = some p ∧ parent.toNat ≠ id ∧ id ∉ p.kids ∧ id ≠ 0 ∧
      (T'.insertAt parent.toNat pos.toNat id p m).WF ∧ T'.insert parent pos id = (0, T'.insertAt parent.toNat pos.toNat id p m) ∧ (graftP f n T) = (id, T') ∧ T.graft f parent pos n = (((id : Int), 0), T'.insertAt parent.toNat pos.toNat id p m) := by
  unfold graft
  cases hp : T.get parent with
  | none => exact .inl ⟨2, by decide, rfl⟩
  | some p =>
    obtain ⟨h0, hp1, hp2⟩ := get_some hp
    dsimp only
    split
    · exact .inl ⟨6, by decide, rfl⟩
    rename_i ht
    split
    · exact .inl ⟨1, by decide, rfl⟩
    rename_i hpos
    simp only [not_or] at hpos
    split
    · rename_i he; exact .inl ⟨_, he, rfl⟩
    rename_i he
    split
    · exact .inl ⟨4, by decide, rfl⟩
    rename_i hd
    split
    · exact .inl ⟨3, by decide, rfl⟩
    rename_i hr
    right
    simp only [Bool.not_eq_false, roomFor, decide_eq_true_eq] at hr
    have hok : n.ok f := PNode.err_ok n (by simpa using he)
    have hdp := depth_has hp
    have hcap := hW.rank_depth _ _ hp1
    have hput := graft_put (f := f) n T hW hok (by omega) (by omega)
    generalize hT' : (graftP f n T).2 = T' at *
    generalize hid : (graftP f n T).1 = id at *
    obtain ⟨m, hm, hmu⟩ := hput.node
    have hpT := hput.grown.at_ _ _ hp1
    have hne : parent.toNat ≠ id := fun e => by have := hput.new; rw [← e, hp1] at this; cases this
    have hnk : id ∉ p.kids := fun h => by
      obtain ⟨q, hq, _⟩ := hW.kid _ _ _ hp1 h
      rw [hput.new] at hq; cases hq
    have hna : ¬ Anc T' parent.toNat id := fun h => by
      have hroot : ∀ i q, Anc T' i id → T.at_ i = some q → False := by
        intro i q h
        generalize hid' : id = o at h
        induction h generalizing q with
        | refl i => intro hq; subst hid'; rw [hput.new] at hq; cases hq
        | @step i p' o n' hi hu _ ih =>
          intro hq
          have := hput.grown.at_ _ _ hq
          rw [hi] at this; cases this
          obtain ⟨q', hq', _⟩ := hW.par _ _ _ hq hu
          exact ih q' hid' hq'
      exact hroot _ _ h hp1
    have h0' : id ≠ 0 := fun e => by
      obtain ⟨q, hq, _⟩ := hW.host
      have := hput.new
      rw [e, hq] at this; cases this
    have hdep' : T'.depthF fuel parent.toNat = T.depthF fuel parent.toNat := by
      refine (depth_congr (T := T) (T' := T') (fun i => ∃ q, T.at_ i = some q) (fun i ⟨q, hq⟩ => ⟨by rw [up_of hq, up_of (hput.grown.at_ _ _ hq)], fun p' hp' => ?_⟩) fuel _ ⟨p, hp1⟩).1
      rw [up_of hq] at hp'
      obtain ⟨q', hq', _⟩ := hW.par _ _ _ hq hp'
      exact ⟨q', hq'⟩
    have hWi : (T'.insertAt parent.toNat pos.toNat id p m).WF := by
      refine hput.wf.insertAt hpT hm ht h0' hmu hna ?_
      rw [hdep', hput.high, hput.grown.dep]
      omega
    have hins : T'.insert parent pos id = (0, T'.insertAt parent.toNat pos.toNat id p m) := by
      have hgp : T'.get parent = some p := by rw [← hp2, get_nat]; exact hpT
      have hgk : T'.get (id : Int) = some m := by rw [get_nat]; exact hm
      unfold DT.insert
      rw [hgp, hgk]
      dsimp only
      rw [if_neg ht, if_neg (by rw [hmu]; simp only [upI, not_or]; omega), if_neg (by rw [Int.toNat_natCast, (hput.wf.within_not hpT _).2 hna]; simp), if_neg (by
        rw [depth_has hgp, height_has hgk, hdep', Int.toNat_natCast, hput.high, hput.grown.dep]; omega)]
      simp
    refine ⟨p, T', id, m, rfl, by omega, by omega, hok, hput, hm, hmu, hpT, hne, hnk, h0', hWi, hins, by rw [← hT', ← hid], ?_⟩
    rw [hins]

theorem WF.graft (hW : T.WF) (parent pos : Int) (n : PNode) : (T.graft f parent pos n).2.WF := by
  rcases hW.graft_spec (f := f) parent pos n with ⟨e, _, h⟩ | ⟨p, T', id, m, _, _, _, _, _, _, _, _, _, _, _, h1, _, _, h2⟩
  · rw [h]; exact hW
  · rw [h2]; exact h1
end DT

/-- A call of chapter 8's statements. -/
structure PCall where
  what : Int
  a : Int
  b : Int
  c : Int
  s : Bytes
  attrs : List (Bytes × Bytes)
  n : PNode

namespace DT
def play1 (f : Bytes → Bytes) (T : DT) (c : PCall) : DT :=
  if c.what % 10 = 2 then (T.text (f c.s)).2
  else if c.what % 10 = 3 ∨ c.what % 10 = 4 then (T.insert c.a c.b c.c).2
  else if c.what % 10 = 5 then (T.remove c.a).2
  else if c.what % 10 = 6 then (T.drop c.a).2
  else if c.what % 10 = 7 then (((T.setAttrs c.a c.attrs).2.setText c.a (f c.s)).2.setTag c.a c.b).2
  else if c.what % 10 = 8 then (T.graft f c.a c.b c.n).2
  else if c.what % 10 = 9 then T
  else (T.element c.a c.attrs).2
def play (f : Bytes → Bytes) (T : DT) (l : List PCall) : DT := l.foldl (play1 f) T

variable {T : DT} {f : Bytes → Bytes}
theorem WF.play1 (hW : T.WF) (c : PCall) : (T.play1 f c).WF := by
  unfold DT.play1
  repeat' split
  · exact hW.text _
  · exact hW.insert _ _ _
  · exact hW.remove _
  · exact hW.drop _
  · exact ((hW.setAttrs _ _).setText _ _).setTag _ _
  · exact hW.graft _ _ _
  · exact hW
  · exact hW.element _ _
theorem WF.play (hW : T.WF) (l : List PCall) : (T.play f l).WF := by
  unfold DT.play
  induction l generalizing T with
  | nil => exact hW
  | cons c l ih => exact ih (hW.play1 c)
end DT
end Go.Proofs.Ytnnjlpkjpbbklaa
