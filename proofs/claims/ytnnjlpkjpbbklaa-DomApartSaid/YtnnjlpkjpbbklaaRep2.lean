/-
  A tree of package dom in memory, behind a change of one node, of the row of nodes, of the count. Conditions: none.
-/
import Derived.Test.YtnnjlpkjpbbklaaRep
set_option linter.unusedVariables false
set_option linter.unusedSimpArgs false
namespace Go.Proofs.Ytnnjlpkjpbbklaa
open Go.RowKit

theorem split_get {α : Type _} {l : List α} {i : Nat} {a : α} (h : l[i]? = some a) : ∃ l1 l2, l = l1 ++ a :: l2 ∧ l1.length = i ∧ ∀ b, l.set i b = l1 ++ b :: l2 := by
  induction l generalizing i with
  | nil => simp at h
  | cons x l ih =>
    cases i with
    | zero => simp at h; subst h; exact ⟨[], l, rfl, rfl, fun _ => rfl⟩
    | succ i =>
      simp at h
      obtain ⟨l1, l2, e, hl, hs⟩ := ih h
      exact ⟨x :: l1, l2, by rw [e]; rfl, by simp [hl], fun b => by simp [List.set_cons_succ, hs b]⟩

/-- Blocks of a row, one element's others: still each once. -/
theorem nodup_set {α : Type _} {A : List Nat} {l : List α} {f : α → List Nat} {i : Nat} {a a' : α} (h : (A ++ l.flatMap f).Nodup) (hi : l[i]? = some a) (ha : (f a').Nodup)
    (hx : ∀ x ∈ f a', x ∈ f a ∨ x ∉ A ++ l.flatMap f) : (A ++ (l.set i a').flatMap f).Nodup := by
  obtain ⟨l1, l2, e, _, hs⟩ := split_get hi
  rw [hs a']
  subst e
  simp only [List.flatMap_append, List.flatMap_cons, List.nodup_append, List.mem_append, not_or] at *
  obtain ⟨hA, ⟨h1, ⟨h2, h3, h4⟩, h5⟩, h6⟩ := h
  refine ⟨hA, ⟨h1, ⟨ha, h3, ?_⟩, ?_⟩, ?_⟩
  · intro x hxa y hy e
    subst e
    rcases hx x hxa with k | k
    · exact h4 x k x hy rfl
    · exact k.2.2.2 hy
  · intro x hx1 y hy e
    subst e
    rcases hy with hy | hy
    · rcases hx x hy with k | k
      · exact h5 x hx1 x (.inl k) rfl
      · exact k.2.1 hx1
    · exact h5 x hx1 x (.inr hy) rfl
  · intro x hx1 y hy e
    subst e
    rcases hy with hy | hy | hy
    · exact h6 x hx1 x (.inl hy) rfl
    · rcases hx x hy with k | k
      · exact h6 x hx1 x (.inr (.inl k)) rfl
      · exact k.1 hx1
    · exact h6 x hx1 x (.inr (.inr hy)) rfl

theorem mem_set {α : Type _} {A : List Nat} {l : List α} {f : α → List Nat} {i : Nat} {a' : α} {x : Nat} (h : x ∈ A ++ (l.set i a').flatMap f) : x ∈ f a' ∨ x ∈ A ++ l.flatMap f := by
  simp only [List.mem_append, List.mem_flatMap] at *
  rcases h with h | ⟨b, hb, hx⟩
  · exact .inr (.inl h)
  · rcases List.mem_or_eq_of_mem_set hb with hb | rfl
    · exact .inr (.inr ⟨b, hb, hx⟩)
    · exact .inl hx

namespace DT
theorem at_put (T : DT) (i j : Nat) (x : Option Nd) (hi : i < T.nodes.length) : (T.put i x).at_ j = if j = i then x else T.at_ j := by
  unfold at_ put
  simp only [List.getElem?_set]
  by_cases h : i = j
  · subst h; simp [hi]
  · have h' : ¬ j = i := fun e => h e.symm
    simp [h, h']
theorem put_length (T : DT) (i : Nat) (x : Option Nd) : (T.put i x).nodes.length = T.nodes.length := by simp [put]
theorem put_cap (T : DT) (i : Nat) (x : Option Nd) : (T.put i x).cap = T.cap := rfl
theorem put_dep (T : DT) (i : Nat) (x : Option Nd) : (T.put i x).dep = T.dep := rfl
theorem count_set (l : List (Option Nd)) (i : Nat) (a b : Option Nd) (h : l[i]? = some a) : (l.set i b).countP Option.isSome + (if a.isSome then 1 else 0) = l.countP Option.isSome + (if b.isSome then 1 else 0) := by
  obtain ⟨l1, l2, e, _, hs⟩ := split_get h
  rw [hs b]
  subst e
  simp only [List.countP_append, List.countP_cons]
  omega
theorem count_put (T : DT) (i : Nat) (b : Option Nd) (hi : i < T.nodes.length) : (T.put i b).count + (if (T.at_ i).isSome then 1 else 0) = T.count + (if b.isSome then 1 else 0) := by
  have h : T.nodes[i]? = some (T.at_ i) := by simp [at_, List.getElem?_eq_getElem hi]
  exact count_set _ _ _ _ h
end DT

theorem repBlocks_eq (tb : Nat) (nv : Value) (G : List (Option NG)) : repBlocks tb nv G = (tb :: nv.ownBlock.toList) ++ G.flatMap ngBlocks := by simp [repBlocks]

section
variable {w w' : World} {tb : Nat} {T : DT} {nv : Value} {G : List (Option NG)}

theorem Rep.node_ne (h : Rep w tb T nv G) {i : Nat} {g : NG} (hg : G[i]? = some (some g)) : ∀ b ∈ g.blocks, b ≠ tb ∧ nv.ownBlock ≠ some b := by
  intro b hb
  have hn := h.nodup
  rw [repBlocks_eq, List.nodup_append] at hn
  have hm : b ∈ G.flatMap ngBlocks := List.mem_flatMap.2 ⟨some g, List.mem_of_getElem? hg, hb⟩
  constructor
  · intro e; exact hn.2.2 tb (by simp) b hm e.symm
  · intro e; exact hn.2.2 b (by simp [e]) b hm rfl
theorem Rep.row_ne (h : Rep w tb T nv G) {b : Nat} (hb : nv.ownBlock = some b) : b ≠ tb := by
  intro e
  have hn := h.nodup
  subst e
  simp [repBlocks, hb] at hn
theorem Rep.node_apart (h : Rep w tb T nv G) {i j : Nat} {g g' : NG} (hg : G[i]? = some (some g)) (hg' : G[j]? = some (some g')) (hij : i ≠ j) : ∀ b ∈ g.blocks, b ∉ g'.blocks := by
  intro b hb hb'
  have hn := h.nodup
  obtain ⟨l1, l2, e, hl, _⟩ := split_get hg
  rw [repBlocks_eq, e, List.flatMap_append, List.flatMap_cons] at hn
  have h1 := (List.nodup_append.1 hn).2.1
  rw [e] at hg'
  have h2 := List.nodup_append.1 h1
  rcases Nat.lt_trichotomy j i with hji | hji | hji
  · rw [List.getElem?_append_left (by omega)] at hg'
    exact h2.2.2 b (List.mem_flatMap.2 ⟨_, List.mem_of_getElem? hg', hb'⟩) b (List.mem_append.2 (.inl hb)) rfl
  · omega
  · rw [List.getElem?_append_right (by omega)] at hg'
    obtain ⟨k, hk⟩ : ∃ k, j - l1.length = k + 1 := ⟨j - l1.length - 1, by omega⟩
    rw [hk, List.getElem?_cons_succ] at hg'
    have h3 := List.nodup_append.1 h2.2.1
    exact h3.2.2 b hb b (List.mem_flatMap.2 ⟨_, List.mem_of_getElem? hg', hb'⟩) rfl

theorem map_set_ptr (G : List (Option NG)) (i : Nat) (g g' : NG) (hg : G[i]? = some (some g)) (hb : g'.b = g.b) : (G.set i (some g')).map ngPtr = G.map ngPtr := by
  obtain ⟨l1, l2, e, _, hs⟩ := split_get hg
  rw [hs (some g')]
  subst e
  simp [ngPtr, hb]

/-- One node is changed where it lies. -/
theorem Rep.setNode (h : Rep w tb T nv G) {i : Nat} {n n' : Nd} {g g' : NG} (hn : T.at_ i = some n) (hg : G[i]? = some (some g)) (hb : g'.b = g.b) (hr : NodeRep w' g' n')
    (hs : ∀ b ∈ repBlocks tb nv G, b ∉ g.blocks → w'.heap[b]? = w.heap[b]?) (hnd : g'.blocks.Nodup) (hnew : ∀ b ∈ g'.blocks, b ∈ g.blocks ∨ w.heap.size ≤ b) :
    Rep w' tb (T.put i (some n')) nv (G.set i (some g')) := by
  have hi := DT.at_lt hn
  have hne := h.node_ne hg
  have hcount : (T.put i (some n')).count = T.count := by
    have := T.count_put i (some n') hi
    rw [hn] at this
    simpa using this
  constructor
  · show At _ _ _ #[I T.cap, I T.dep, I ((T.put i (some n')).count : Int), nv]
    rw [hcount]
    exact (hs tb (by simp [repBlocks]) fun hb => (hne tb hb).1 rfl).trans h.tree
  · rw [List.length_set, DT.put_length]; exact h.len
  · rw [List.length_set, map_set_ptr G i g g' hg hb]
    exact h.row.same fun b hb => hs b (by simp [repBlocks, hb]) fun hb' => (hne b hb').2 hb
  · intro j m hm
    rw [T.at_put i j _ hi] at hm
    by_cases hji : j = i
    · subst hji
      simp at hm
      subst hm
      exact ⟨g', by rw [List.getElem?_set]; simp [h.len, hi], hr⟩
    · rw [if_neg hji] at hm
      obtain ⟨k, hk, hrk⟩ := h.node j m hm
      refine ⟨k, by rw [List.getElem?_set_ne (fun e => hji e.symm)]; exact hk, hrk.same fun b hb => hs b (mem_repBlocks_node hk hb) ?_⟩
      exact h.node_apart hk hg hji b hb
  · intro j hj hm
    rw [List.length_set] at hj
    rw [T.at_put i j _ hi] at hm
    by_cases hji : j = i
    · rw [if_pos hji] at hm; cases hm
    · rw [if_neg hji] at hm
      rw [List.getElem?_set_ne (fun e => hji e.symm)]
      exact h.none_ j hj hm
  · rw [repBlocks_eq]
    refine nodup_set (a := some g) (by rw [← repBlocks_eq]; exact h.nodup) hg hnd fun x hx => ?_
    rcases hnew x hx with k | k
    · exact .inl k
    · right
      rw [← repBlocks_eq]
      intro hm
      have := h.lt x hm
      omega

theorem Rep.set_blocks {i : Nat} {x : Option NG} {S : Nat → Prop} (hS : ∀ b ∈ repBlocks tb nv G, S b) (hx : ∀ b ∈ ngBlocks x, S b) : ∀ b ∈ repBlocks tb nv (G.set i x), S b := by
  intro b hb
  rw [repBlocks_eq] at hb
  rcases mem_set hb with k | k
  · exact hx b k
  · exact hS b (by rw [repBlocks_eq]; exact k)

/-- A place of the row of nodes is written: a new node, or none any more; the count is written too. -/
theorem Rep.setPlace (h : Rep w tb T nv G) {i : Nat} {x : Option Nd} {y : Option NG} (hi : i < T.nodes.length)
    (ht : At w' tb 143 #[I T.cap, I T.dep, I ((T.put i x).count : Int), nv]) (hrow : Row w' 134 1 nv G.length ((G.set i y).map ngPtr))
    (hxy : ∀ n, x = some n → ∃ g, y = some g ∧ NodeRep w' g n) (hx0 : x = none → y = none)
    (hs : ∀ b ∈ repBlocks tb nv G, b ≠ tb → nv.ownBlock ≠ some b → w'.heap[b]? = w.heap[b]?) (hnd : (ngBlocks y).Nodup) (hnew : ∀ b ∈ ngBlocks y, b ∉ repBlocks tb nv G) :
    Rep w' tb (T.put i x) nv (G.set i y) := by
  have hlen := h.len
  constructor
  · exact ht
  · rw [List.length_set, DT.put_length]; exact h.len
  · rw [List.length_set]; exact hrow
  · intro j m hm
    rw [T.at_put i j _ hi] at hm
    by_cases hji : j = i
    · subst hji
      simp at hm
      obtain ⟨g, e, hr⟩ := hxy m hm
      exact ⟨g, by rw [List.getElem?_set]; simp [hlen, hi, e], hr⟩
    · rw [if_neg hji] at hm
      obtain ⟨k, hk, hrk⟩ := h.node j m hm
      refine ⟨k, by rw [List.getElem?_set_ne (fun e => hji e.symm)]; exact hk, hrk.same fun b hb => hs b (mem_repBlocks_node hk hb) (h.node_ne hk b hb).1 (h.node_ne hk b hb).2⟩
  · intro j hj hm
    rw [List.length_set] at hj
    rw [T.at_put i j _ hi] at hm
    by_cases hji : j = i
    · subst hji
      simp at hm
      rw [List.getElem?_set]; simp [hlen, hi, hx0 hm]
    · rw [if_neg hji] at hm
      rw [List.getElem?_set_ne (fun e => hji e.symm)]
      exact h.none_ j hj hm
  · rw [repBlocks_eq]
    obtain ⟨o, ho⟩ : ∃ o, G[i]? = some o := ⟨_, List.getElem?_eq_getElem (by omega)⟩
    refine nodup_set (a := o) (by rw [← repBlocks_eq]; exact h.nodup) ho hnd fun b hb => ?_
    right
    rw [← repBlocks_eq]
    exact hnew b hb

/-- The row of nodes grew by a place. -/
theorem Rep.grow (h : Rep w tb T nv G) {nv' : Value} (ht : At w' tb 143 #[I T.cap, I T.dep, I (T.count : Int), nv']) (hrow : Row w' 134 1 nv' (G.length + 1) (G.map ngPtr ++ [.pointer none]))
    (hs : ∀ b ∈ repBlocks tb nv G, b ≠ tb → nv.ownBlock ≠ some b → w'.heap[b]? = w.heap[b]?) (hnew : ∀ b, nv'.ownBlock = some b → nv.ownBlock = some b ∨ w.heap.size ≤ b) :
    Rep w' tb { T with nodes := T.nodes ++ [none] } nv' (G ++ [none]) := by
  have hlen := h.len
  have hat : ∀ j, ({ T with nodes := T.nodes ++ [none] } : DT).at_ j = T.at_ j := by
    intro j
    unfold DT.at_
    simp only [List.getElem?_append]
    by_cases hj : j < T.nodes.length
    · simp [hj]
    · rw [if_neg hj, List.getElem?_eq_none (l := T.nodes) (by omega)]
      cases hk : j - T.nodes.length <;> simp
  constructor
  · show At _ _ _ #[I T.cap, I T.dep, I ((T.nodes ++ [none]).countP Option.isSome : Int), nv']
    have : (T.nodes ++ [none]).countP Option.isSome = T.count := by simp [DT.count]
    rw [this]; exact ht
  · simp [hlen]
  · simpa [ngPtr] using hrow
  · intro j m hm
    rw [hat] at hm
    obtain ⟨k, hk, hrk⟩ := h.node j m hm
    refine ⟨k, ?_, hrk.same fun b hb => hs b (mem_repBlocks_node hk hb) (h.node_ne hk b hb).1 (h.node_ne hk b hb).2⟩
    rw [List.getElem?_append_left (by have := (List.getElem?_eq_some_iff.1 hk).1; omega)]
    exact hk
  · intro j hj hm
    rw [hat] at hm
    by_cases hjl : j < G.length
    · rw [List.getElem?_append_left hjl]; exact h.none_ j hjl hm
    · rw [List.getElem?_append_right (by omega)]
      simp at hj
      have : j - G.length = 0 := by omega
      rw [this]; rfl
  · have hn := h.nodup
    have hl := h.lt
    simp only [repBlocks, List.flatMap_append, List.flatMap_cons, List.flatMap_nil, ngBlocks, List.append_nil, List.nodup_cons, List.nodup_append, List.mem_append, not_or] at *
    refine ⟨⟨?_, hn.1.2⟩, ⟨by cases nv'.ownBlock <;> simp, hn.2.2.1, ?_⟩⟩
    · intro hm
      rcases hnew tb (by simpa using hm) with k | k
      · exact hn.1.1 (by simp [k])
      · have := hl tb (by simp); omega
    · intro a ha b hb e
      subst e
      rcases hnew a (by simpa using ha) with k | k
      · exact hn.2.2.2 a (by simp [k]) a hb rfl
      · have := hl a (by simp only [List.mem_cons, List.mem_append]; exact .inr (.inr hb)); omega
end
end Go.Proofs.Ytnnjlpkjpbbklaa
