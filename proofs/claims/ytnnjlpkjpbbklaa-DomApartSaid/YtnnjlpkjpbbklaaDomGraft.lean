/-
  Plain trees, and Graft of chapter 8 on the tree as plain data. No program in sight. Conditions: none.
-/
import Derived.Test.YtnnjlpkjpbbklaaDomWF2
set_option linter.unusedVariables false
set_option linter.unusedSimpArgs false
namespace Go.Proofs.Ytnnjlpkjpbbklaa

namespace PNode
theorem ind {P : PNode → Prop} (h : ∀ t a x ks, (∀ k ∈ ks, P k) → P (.mk t a x ks)) : ∀ n, P n := fun n =>
  PNode.rec (motive_1 := P) (motive_2 := fun ks => ∀ k ∈ ks, P k) (fun t a x ks ih => h t a x ks ih) (fun _ hk => by cases hk) (fun k ks h1 h2 x hx => by
    rcases List.mem_cons.1 hx with rfl | hx
    · exact h1
    · exact h2 x hx) n
mutual
def size : PNode → Nat
  | .mk _ _ _ ks => sizeL ks + 1
def sizeL : List PNode → Nat
  | [] => 0
  | k :: ks => size k + sizeL ks
end
mutual
def high : PNode → Nat
  | .mk _ _ _ ks => highL 0 ks
def highL : Nat → List PNode → Nat
  | b, [] => b
  | b, k :: ks => highL (max b (high k + 1)) ks
end
-- The texts written anew.
mutual
def turned (f : Bytes → Bytes) : PNode → PNode
  | .mk t a x ks => .mk t a (f x) (turnedL f ks)
def turnedL (f : Bytes → Bytes) : List PNode → List PNode
  | [] => []
  | k :: ks => turned f k :: turnedL f ks
end
/-- May a node by itself be? -/
def badOne (t : Int) (a : List (Bytes × Bytes)) (x : Bytes) (ks : List PNode) : Bool := if t = 0 then !(a.isEmpty && ks.isEmpty) else !(elementOk t) || decide (x.size ≠ 0)
def worse (e : Int) (bad long : Bool) : Int := if bad then 1 else if long && e == 0 then 10 else e
-- The error of a plain tree, from e on.
mutual
def err (f : Bytes → Bytes) : Int → PNode → Int
  | e, .mk t a x ks => errL f (worse e (badOne t a x ks) (decide (8192 < (f x).size))) ks
def errL (f : Bytes → Bytes) : Int → List PNode → Int
  | e, [] => e
  | e, k :: ks => errL f (err f e k) ks
end
-- May it be?
mutual
def ok (f : Bytes → Bytes) : PNode → Prop
  | .mk t a x ks => badOne t a x ks = false ∧ (f x).size ≤ 8192 ∧ okL f ks
def okL (f : Bytes → Bytes) : List PNode → Prop
  | [] => True
  | k :: ks => ok f k ∧ okL f ks
end
variable {f : Bytes → Bytes}
theorem sizeL_cons (k : PNode) (ks : List PNode) : sizeL (k :: ks) = size k + sizeL ks := rfl
theorem highL_cons (b : Nat) (k : PNode) (ks : List PNode) : highL b (k :: ks) = highL (max b (high k + 1)) ks := rfl
theorem turnedL_cons (k : PNode) (ks : List PNode) : turnedL f (k :: ks) = turned f k :: turnedL f ks := rfl
theorem turnedL_map (ks : List PNode) : turnedL f ks = ks.map (turned f) := by
  induction ks with
  | nil => rfl
  | cons k ks ih => simp only [turnedL, List.map_cons, ih]
theorem worse_ne {e : Int} {b l : Bool} (h : e ≠ 0) : worse e b l ≠ 0 := by
  unfold worse
  split
  · decide
  · split
    · decide
    · exact h
theorem err_ne : ∀ (n : PNode) (e : Int), e ≠ 0 → err f e n ≠ 0 := by
  intro n
  induction n using ind with
  | h t a x ks ih =>
    intro e he
    unfold err
    have h0 : worse e (badOne t a x ks) (decide (8192 < (f x).size)) ≠ 0 := worse_ne he
    generalize worse e (badOne t a x ks) (decide (8192 < (f x).size)) = e' at h0
    clear he
    induction ks generalizing e' with
    | nil => exact h0
    | cons k ks ih2 =>
      unfold errL
      exact ih2 (fun k hk => ih k (by simp [hk])) _ (ih k (by simp) e' h0)
theorem errL_ne (ks : List PNode) (e : Int) (he : e ≠ 0) : errL f e ks ≠ 0 := by
  induction ks generalizing e with
  | nil => exact he
  | cons k ks ih => unfold errL; exact ih _ (err_ne k e he)
theorem err_ok : ∀ (n : PNode), err f 0 n = 0 → ok f n := by
  intro n
  induction n using ind with
  | h t a x ks ih =>
    intro h
    unfold err at h
    unfold ok
    have h0 : worse 0 (badOne t a x ks) (decide (8192 < (f x).size)) = 0 := by
      by_cases e : worse 0 (badOne t a x ks) (decide (8192 < (f x).size)) = 0
      · exact e
      · exact absurd h (errL_ne ks _ e)
    rw [h0] at h
    have hb : badOne t a x ks = false ∧ ¬ 8192 < (f x).size := by
      unfold worse at h0
      cases hb : badOne t a x ks with
      | true => rw [hb] at h0; simp at h0
      | false =>
        rw [hb] at h0
        refine ⟨rfl, fun hl => ?_⟩
        simp [hl] at h0
    refine ⟨hb.1, by omega, ?_⟩
    clear h0 hb
    induction ks with
    | nil => trivial
    | cons k ks ih2 =>
      unfold errL at h
      have h1 : err f 0 k = 0 := by
        by_cases e : err f 0 k = 0
        · exact e
        · exact absurd h (errL_ne ks _ e)
      rw [h1] at h
      exact ⟨ih k (by simp) h1, ih2 (fun k hk => ih k (by simp [hk])) h⟩
end PNode

namespace DT
/-- Nodes that are there are there as they were. -/
structure Grown (T T' : DT) : Prop where
  cap : T'.cap = T.cap
  dep : T'.dep = T.dep
  at_ : ∀ j n, T.at_ j = some n → T'.at_ j = some n

theorem Grown.refl (T : DT) : Grown T T := ⟨rfl, rfl, fun _ _ h => h⟩
theorem Grown.trans {a b c : DT} (h : Grown a b) (k : Grown b c) : Grown a c := ⟨k.cap.trans h.cap, k.dep.trans h.dep, fun j n hn => k.at_ j n (h.at_ j n hn)⟩
theorem Grown.anc {T T' : DT} (h : Grown T T') {i o : Nat} (k : Anc T i o) : Anc T' i o := by
  induction k with
  | refl => exact .refl _
  | step hi hu _ ih => exact .step (h.at_ _ _ hi) hu ih
theorem Grown.plain {T T' : DT} (h : Grown T T') (hW : T.WF) (f i : Nat) (hi : ∃ n, T.at_ i = some n) : T'.plainF f i = T.plainF f i ∧ T'.heightF f i = T.heightF f i := by
  refine plain_congr (T := T) (T' := T') (fun i => ∃ n, T.at_ i = some n) (fun j ⟨n, hn⟩ => ⟨by rw [hn, h.at_ j n hn], fun n' hn' k hk => ?_⟩) f i hi
  obtain ⟨m, hm, _⟩ := hW.kid _ _ _ hn' hk
  exact ⟨m, hm⟩
theorem Grown.addAt (T : DT) (n : Nd) : Grown T (T.addAt n) := ⟨addAt_cap n, addAt_dep n, fun j m h => by
  rw [at_addAt, if_neg (fun e => by rw [e, slot_none] at h; cases h)]; exact h⟩

theorem anc_mono {T T' : DT} (h : ∀ i n, T.at_ i = some n → n.up ≠ none → ∃ n', T'.at_ i = some n' ∧ n'.up = n.up) {i o : Nat} (k : Anc T i o) : Anc T' i o := by
  induction k with
  | refl => exact .refl _
  | step hi hu _ ih =>
    obtain ⟨n', hn', e⟩ := h _ _ hi (by rw [hu]; exact fun e => by cases e)
    exact .step hn' (e.trans hu) ih
theorem count_put_some {T : DT} {i : Nat} {n : Nd} (h : T.at_ i = some n) (n' : Nd) : (T.put i (some n')).count = T.count := by
  have hl := at_lt h
  unfold count DT.put
  have h0 : T.nodes[i] = some n := by
    unfold DT.at_ at h
    rw [List.getElem?_eq_getElem hl] at h
    simpa using h
  rw [List.countP_set (h := hl)]
  have : 0 < T.nodes.countP Option.isSome := List.countP_pos_iff.2 ⟨some n, by rw [← h0]; exact List.getElem_mem hl, rfl⟩
  simp [h0]
  omega
theorem count_insertAt {T : DT} {parent a kid : Nat} {p k : Nd} (hp : T.at_ parent = some p) (hk : T.at_ kid = some k) (hne : parent ≠ kid) : (T.insertAt parent a kid p k).count = T.count := by
  unfold insertAt
  rw [count_put_some (n := k) (by rw [at_put_ne _ (fun e => hne e.symm)]; exact hk), count_put_some hp]

/-- A loose node as another one's last kid. -/
def link (T : DT) (id kid : Nat) : DT := match T.at_ id, T.at_ kid with
  | some p, some k => T.insertAt id p.kids.length kid p k
  | _, _ => T
-- put of Graft: a plain tree as a loose one.
mutual
def graftP (f : Bytes → Bytes) : PNode → DT → Nat × DT
  | .mk t a x ks, T => (T.slot, graftL f ks T.slot (T.addAt ⟨t, a, f x, [], none⟩))
def graftL (f : Bytes → Bytes) : List PNode → Nat → DT → DT
  | [], _, T => T
  | k :: ks, id, T => graftL f ks id ((graftP f k T).2.link id (graftP f k T).1)
end

structure PutP (f : Bytes → Bytes) (T T' : DT) (id : Nat) (n : PNode) : Prop where
  wf : T'.WF
  grown : Grown T T'
  new : T.at_ id = none
  node : ∃ m, T'.at_ id = some m ∧ m.up = none
  count : T'.count = T.count + n.size
  plain : T'.plainF fuel id = n.turned f
  high : T'.heightF fuel id = n.high
  within : ∀ j m, T'.at_ j = some m → T.at_ j = none → Anc T' j id
structure PutL (f : Bytes → Bytes) (T T' : DT) (id : Nat) (m : Nd) (ks : List PNode) : Prop where
  wf : T'.WF
  cap : T'.cap = T.cap
  dep : T'.dep = T.dep
  others : ∀ j n, j ≠ id → T.at_ j = some n → T'.at_ j = some n
  node : ∃ m', T'.at_ id = some m' ∧ m'.up = none
  count : T'.count = T.count + PNode.sizeL ks
  plain : T'.plainF fuel id = .mk m.tag m.attrs m.text (m.kids.map (T.plainF fuel) ++ PNode.turnedL f ks)
  high : T'.heightF fuel id = PNode.highL (T.heightF fuel id) ks
  within : ∀ j m, T'.at_ j = some m → T.at_ j = none → Anc T' j id

theorem highL_ge : ∀ (ks : List PNode) (b : Nat), b ≤ PNode.highL b ks := by
  intro ks
  induction ks with
  | nil => intro b; exact Nat.le_refl _
  | cons k ks ih =>
    intro b
    unfold PNode.highL
    exact Nat.le_trans (by omega) (ih _)

/-- Only the node o is another one, and not its parent: what others tell is as it was. -/
theorem WF.plain_but {T T' : DT} (hW : T.WF) {o : Nat} {n : Nd} (hr : T.at_ o = some n) (hu : n.up = none) (ho : ∀ i m, T.at_ i = some m → i ≠ o → (T'.at_ i).map Nd.low = some m.low) (g i : Nat) (hi : ∃ m, T.at_ i = some m) (hne : i ≠ o) :
    T'.plainF g i = T.plainF g i ∧ T'.heightF g i = T.heightF g i :=
  hW.plain_apart (o := o) (fun j m hj hx => ho j m hj fun e => hx (e ▸ .refl _)) g i hi fun h => hne (h.root hr hu).symm

theorem graft_list_of {f : Bytes → Bytes} : ∀ (ks : List PNode) (id : Nat) (T : DT) (m : Nd), (∀ k ∈ ks, ∀ T : DT, T.WF → k.ok f → (T.count : Int) + k.size ≤ T.cap → (k.high : Int) ≤ T.dep → PutP f T (graftP f k T).2 (graftP f k T).1 k) →
    T.WF → PNode.okL f ks → T.at_ id = some m → m.up = none → (ks ≠ [] → m.tag ≠ 0) → (T.count : Int) + PNode.sizeL ks ≤ T.cap → (PNode.highL (T.heightF fuel id) ks : Int) ≤ T.dep → PutL f T (graftL f ks id T) id m ks := by
  intro ks
  induction ks with
  | nil =>
    intro id T m _ hW _ hm hu _ _ _
    unfold graftL
    refine ⟨hW, rfl, rfl, fun _ _ _ h => h, ⟨m, hm, hu⟩, rfl, ?_, rfl, fun j m h1 h2 => by rw [h1] at h2; cases h2⟩
    rw [hW.plain_step hm]; simp [PNode.turnedL]
  | cons k ks ihl =>
    intro id T m ih hW hok hm hu ht hcap hdep
    unfold PNode.okL at hok
    rw [PNode.sizeL_cons] at hcap
    rw [PNode.highL_cons] at hdep
    have hge := highL_ge ks (max (T.heightF fuel id) (k.high + 1))
    obtain ⟨q1, q2, q3, q4, q5, q6, q7, q8⟩ := ih k (by simp) T hW hok.1 (by omega) (by omega)
    unfold graftL
    generalize hT2 : (graftP f k T).2 = T2 at *
    generalize hkid : (graftP f k T).1 = kid at *
    obtain ⟨mk, hmk, hmu⟩ := q4
    have hm2 := q2.at_ _ _ hm
    have hne : id ≠ kid := fun e => by rw [e, q3] at hm; cases hm
    have hna : ¬ Anc T2 id kid := fun h => hne (h.root hm2 hu)
    have htag := ht (by simp)
    have hlink : T2.link id kid = T2.insertAt id m.kids.length kid m mk := by unfold link; rw [hm2, hmk]
    have hk0 : kid ≠ 0 := fun e => by
      obtain ⟨m0, h0, _⟩ := hW.host
      rw [e, h0] at q3; cases q3
    have hW3 : (T2.link id kid).WF := by
      rw [hlink]
      refine q1.insertAt hm2 hmk htag hk0 hmu hna ?_
      rw [q1.depth_root hm2 hu, q7, q2.dep]
      omega
    have hat : ∀ j, (T2.link id kid).at_ j = if j = kid then some { mk with up := some id } else if j = id then some { m with kids := m.kids ++ [kid] } else T2.at_ j := by
      intro j
      rw [hlink, at_insertAt hm2 hmk]
      simp
    have hid : (T2.link id kid).at_ id = some { m with kids := m.kids ++ [kid] } := by rw [hat, if_neg hne, if_pos rfl]
    have hkd : (T2.link id kid).at_ kid = some { mk with up := some id } := by rw [hat, if_pos rfl]
    have hlow : ∀ i m, T2.at_ i = some m → i ≠ id → ((T2.link id kid).at_ i).map Nd.low = some m.low := by
      intro i m' hi hne'
      rw [hat]
      by_cases e : i = kid
      · rw [if_pos e]; subst e; rw [hmk] at hi; cases hi; rfl
      · rw [if_neg e, if_neg hne', hi]; rfl
    have hpl : ∀ g i, (∃ m, T2.at_ i = some m) → i ≠ id → (T2.link id kid).plainF g i = T2.plainF g i ∧ (T2.link id kid).heightF g i = T2.heightF g i := fun g i hi hne' => q1.plain_but hm2 hu hlow g i hi hne'
    have hkids : ∀ c ∈ m.kids, (T2.link id kid).plainF fuel c = T.plainF fuel c ∧ (T2.link id kid).heightF fuel c = T.heightF fuel c := by
      intro c hc
      obtain ⟨mc, hmc, hcu⟩ := hW.kid _ _ _ hm hc
      have hcne : c ≠ id := fun e => by subst e; rw [hm] at hmc; cases hmc; rw [hu] at hcu; cases hcu
      have h1 := hpl fuel c ⟨mc, q2.at_ _ _ hmc⟩ hcne
      have h2 := q2.plain hW fuel c ⟨mc, hmc⟩
      exact ⟨h1.1.trans h2.1, h1.2.trans h2.2⟩
    have hkp := hpl fuel kid ⟨mk, hmk⟩ (fun e => hne e.symm)
    have hhid : (T2.link id kid).heightF fuel id = max (T.heightF fuel id) (k.high + 1) := by
      rw [hW3.height_step hid, hW.height_step hm]
      show (m.kids ++ [kid]).foldl _ 0 = _
      rw [List.foldl_append]
      simp only [List.foldl_cons, List.foldl_nil]
      rw [hkp.2, q7]
      congr 1
      exact foldl_congr _ _ _ _ fun b c hc => by rw [(hkids c hc).2]
    have hc3 : (T2.link id kid).count = T.count + k.size := by rw [hlink, count_insertAt hm2 hmk hne, q5]
    have hcap3 : (T2.link id kid).cap = T.cap := by rw [hlink]; exact q2.cap
    have hdep3 : (T2.link id kid).dep = T.dep := by rw [hlink]; exact q2.dep
    generalize T2.link id kid = T3 at *
    obtain ⟨p1, p2, p3, p4, p5, p6, p7, p8, p9⟩ := ihl id T3 { m with kids := m.kids ++ [kid] } (fun k hk => ih k (by simp [hk])) hW3 hok.2 hid hu (fun _ => htag) (by rw [hc3, hcap3]; omega) (by rw [hhid, hdep3]; exact hdep)
    have ho3 : ∀ j n, j ≠ id → T.at_ j = some n → T3.at_ j = some n := by
      intro j n hj hn
      rw [hat, if_neg (fun e => by rw [e, q3] at hn; cases hn), if_neg hj]
      exact q2.at_ _ _ hn
    refine ⟨p1, p2.trans hcap3, p3.trans hdep3, fun j n hj hn => p4 j n hj (ho3 j n hj hn), p5, ?_, ?_, ?_, ?_⟩
    · rw [p6, hc3, PNode.sizeL_cons]; omega
    · rw [p7, PNode.turnedL_cons]
      show PNode.mk m.tag m.attrs m.text ((m.kids ++ [kid]).map (T3.plainF fuel) ++ PNode.turnedL f ks) = _
      rw [List.map_append, List.append_assoc]
      congr 2
      · exact List.map_congr_left fun c hc => (hkids c hc).1
      · simp only [List.map_cons, List.map_nil, List.cons_append, List.nil_append]
        rw [hkp.1, q6]
    · rw [p8, hhid]
      rfl
    · have hup3 : ∀ i n, T3.at_ i = some n → n.up ≠ none → ∃ n', (graftL f ks id T3).at_ i = some n' ∧ n'.up = n.up := by
        intro i n hi hnu
        refine ⟨n, p4 i n (fun e => ?_) hi, rfl⟩
        subst e; rw [hid] at hi; cases hi; exact hnu hu
      intro j m' hj hno
      cases hj3 : T3.at_ j with
      | none => exact p9 j m' hj hj3
      | some n3 =>
        refine anc_mono hup3 ?_
        by_cases e1 : j = id
        · subst e1; exact .refl _
        · by_cases e2 : j = kid
          · subst e2; exact .step hkd rfl (.refl _)
          · have h2 : T2.at_ j = some n3 := by rw [hat, if_neg e2, if_neg e1] at hj3; exact hj3
            have h3 := q8 j n3 h2 hno
            have h4 : Anc T3 j kid := anc_mono (T := T2) (fun i n hi hnu => by
              by_cases e : i = kid
              · subst e; rw [hmk] at hi; cases hi; exact absurd hmu hnu
              · refine ⟨n, ?_, rfl⟩
                rw [hat, if_neg e]
                by_cases e' : i = id
                · subst e'; rw [hm2] at hi; cases hi; exact absurd hu hnu
                · rw [if_neg e']; exact hi) h3
            exact h4.trans (.step hkd rfl (.refl _))

theorem graft_put {f : Bytes → Bytes} : ∀ (n : PNode) (T : DT), T.WF → n.ok f → (T.count : Int) + n.size ≤ T.cap → (n.high : Int) ≤ T.dep → PutP f T (graftP f n T).2 (graftP f n T).1 n := by
  intro n
  induction n using PNode.ind with
  | h t a x ks ih =>
    intro T hW hok hcap hdep
    unfold PNode.ok at hok
    unfold PNode.size at hcap
    unfold PNode.high at hdep
    obtain ⟨hb, hx, hks⟩ := hok
    have hroom : T.roomFor 1 = true := by simp only [roomFor, decide_eq_true_eq]; omega
    have htag : (t = 0 ∧ a = [] ∧ ks = []) ∨ (1 ≤ t ∧ t ≤ 16) := by
      unfold PNode.badOne at hb
      split at hb
      · rename_i e
        simp at hb
        exact .inl ⟨e, hb.1, hb.2⟩
      · simp at hb
        exact .inr (elementOk_iff.1 hb.1)
    have hW1 : (T.addAt ⟨t, a, f x, [], none⟩).WF := hW.addAt hroom rfl rfl (by show 0 ≤ t ∧ t ≤ 16; omega) hx
    have hg1 := Grown.addAt T ⟨t, a, f x, [], none⟩
    have h1 : (T.addAt ⟨t, a, f x, [], none⟩).at_ T.slot = some ⟨t, a, f x, [], none⟩ := by rw [at_addAt, if_pos rfl]
    have hh1 : (T.addAt ⟨t, a, f x, [], none⟩).heightF fuel T.slot = 0 := by rw [hW1.height_step h1]; rfl
    have hc1 : (T.addAt ⟨t, a, f x, [], none⟩).count = T.count + 1 := count_addAt _
    obtain ⟨p1, p2, p3, p4, p5, p6, p7, p8, p9⟩ := graft_list_of ks T.slot (T.addAt ⟨t, a, f x, [], none⟩) _ ih hW1 hks h1 rfl (fun h => by
      rcases htag with ⟨_, _, e⟩ | e
      · exact absurd e h
      · show t ≠ 0; omega) (by rw [hc1, hg1.cap]; omega) (by rw [hh1, hg1.dep]; exact hdep)
    unfold graftP
    refine ⟨p1, ⟨p2.trans hg1.cap, p3.trans hg1.dep, fun j n hn => p4 j n (fun e => by rw [e, slot_none] at hn; cases hn) (hg1.at_ _ _ hn)⟩, slot_none, p5, ?_, ?_, ?_, ?_⟩
    · rw [p6, hc1]; unfold PNode.size; omega
    · rw [p7]; simp [PNode.turned]
    · rw [p8, hh1]; unfold PNode.high; rfl
    · intro j m hj hno
      by_cases e : j = T.slot
      · subst e; exact .refl _
      · exact p9 j m hj (by rw [at_addAt, if_neg e]; exact hno)

theorem graft_list {f : Bytes → Bytes} (ks : List PNode) (id : Nat) (T : DT) (m : Nd) (hW : T.WF) (hok : PNode.okL f ks) (hm : T.at_ id = some m) (hu : m.up = none) (ht : ks ≠ [] → m.tag ≠ 0) (hc : (T.count : Int) + PNode.sizeL ks ≤ T.cap) (hh : (PNode.highL (T.heightF fuel id) ks : Int) ≤ T.dep) : PutL f T (graftL f ks id T) id m ks :=
  graft_list_of ks id T m (fun k _ T => graft_put k T) hW hok hm hu ht hc hh
theorem graftL_append {f : Bytes → Bytes} (l : List PNode) (k : PNode) (id : Nat) (T : DT) : graftL f (l ++ [k]) id T = (graftP f k (graftL f l id T)).2.link id (graftP f k (graftL f l id T)).1 := by
  induction l generalizing T with
  | nil => rfl
  | cons x l ih => exact ih _
theorem link_eq {T : DT} {id kid : Nat} {p k : Nd} (hp : T.at_ id = some p) (hk : T.at_ kid = some k) : T.link id kid = (T.put id (some { p with kids := p.kids ++ [kid] })).put kid (some { k with up := some id }) := by
  unfold link insertAt
  rw [hp, hk]
  simp

/-- Graft of chapter 8. -/
def graft (f : Bytes → Bytes) (T : DT) (parent pos : Int) (n : PNode) : (Int × Int) × DT :=
  match T.get parent with
  | none => ((0, 2), T)
  | some p =>
    if p.tag = 0 then ((0, 6), T)
    else if pos < 0 ∨ (p.kids.length : Int) < pos then ((0, 1), T)
    else if n.err f 0 ≠ 0 then ((0, n.err f 0), T)
    else if T.dep < T.depth parent + 1 + n.high then ((0, 4), T)
    else if T.roomFor n.size = false then ((0, 3), T)
    else ((((graftP f n T).1 : Int), ((graftP f n T).2.insert parent pos (graftP f n T).1).1), ((graftP f n T).2.insert parent pos (graftP f n T).1).2)
end DT
end Go.Proofs.Ytnnjlpkjpbbklaa
