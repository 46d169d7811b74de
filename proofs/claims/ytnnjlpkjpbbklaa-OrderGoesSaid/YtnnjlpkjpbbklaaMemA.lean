/-
  How a tree of package dom lies in memory, and what its readers tell. Conditions: the tree lies in memory and is sound.
-/
import Derived.Test.YtnnjlpkjpbbklaaBase
import Derived.Test.YtnnjlpkjpbbklaaPureDom
import Derived.Test.YtnnjlpkjpbbklaaChecked
import Derived.Lib.MinMax
-- Rep: How a tree of package dom lies in memory, and what stays of it where memory grows or other blocks are written. Conditions: none.
set_option linter.unusedVariables false
set_option linter.unusedSimpArgs false
namespace Go.Proofs.Ytnnjlpkjpbbklaa
open Go.RowKit

/-- A slice value that reads as n elements, the cells xs, in a row of its own. -/
abbrev Row (w : World) (e : TypeId) (size : Nat) (v : Value) (n : Nat) (xs : List Value) : Prop := w.ownsRow 0 e size v n xs

theorem Row.same {w w' : World} {e : TypeId} {size : Nat} {v : Value} {n : Nat} {xs : List Value} (h : Row w e size v n xs) (hs : ∀ g, v.ownBlock = some g → w'.heap[g]? = w.heap[g]?) : Row w' e size v n xs := by
  refine ⟨h.1, ?_⟩
  rcases h.2 with hn | ⟨g, cap, cur, rfl, hb, hg, r⟩
  · exact .inl hn
  · exact .inr ⟨g, cap, cur, rfl, hb, by rw [hs g rfl]; exact hg, r⟩
theorem Row.below {w w' : World} {B : Nat} {e : TypeId} {size : Nat} {v : Value} {n : Nat} {xs : List Value} (h : Row w e size v n xs) (hb : Below B w w') (hB : ∀ g, v.ownBlock = some g → g < B) : Row w' e size v n xs :=
  h.same fun g hg => hb.block g (hB g hg)
theorem Row.keep {w w' : World} {e : TypeId} {size : Nat} {v : Value} {n : Nat} {xs : List Value} (h : Row w e size v n xs) (hb : Below w.heap.size w w') : Row w' e size v n xs :=
  h.below hb fun g hg => (h.lt g hg).2
/-- Its cells, one by one, where there is one. -/
theorem Row.open_ {w : World} {e : TypeId} {v : Value} {n : Nat} {xs : List Value} (h : Row w e 1 v n xs) (hn : 0 < n) :
    ∃ g cap, v = .slice (some ⟨g, 0, none⟩) n cap ∧ n ≤ cap ∧ cap ≤ maxLen ∧ g < w.heap.size ∧ ∀ j (hj : j < n), w.cell? ⟨g, j, none⟩ = xs[j]? := by
  rcases h.2 with ⟨_, h0⟩ | ⟨g, cap, cur, rfl, _, hg, hc, hm, hs, ht⟩
  · omega
  · refine ⟨g, cap, rfl, hc, hm, (Array.getElem?_eq_some_iff.1 hg).1, fun j hj => ?_⟩
    rw [cell_of_row w g j cur e (0, 0) hg, ← ht, List.getElem?_take, if_pos (by omega)]
    simp
/-- The value's form, nil or not. -/
theorem Row.form {w : World} {e : TypeId} {size : Nat} {v : Value} {n : Nat} {xs : List Value} (h : Row w e size v n xs) : ∃ A cap, v = .slice A n cap ∧ n ≤ cap ∧ (cap : Nat) ≤ maxLen ∧ (A = none → n = 0 ∧ cap = 0) := by
  rcases h.2 with ⟨rfl, rfl⟩ | ⟨g, cap, cur, rfl, _, hg, hc, hm, hs, ht⟩
  · exact ⟨none, 0, rfl, Nat.le_refl _, Nat.zero_le _, fun _ => ⟨rfl, rfl⟩⟩
  · exact ⟨_, cap, rfl, hc, hm, fun h => by cases h⟩

def attrCells (l : List (Bytes × Bytes)) : List Value := l.flatMap fun a => [.string a.1, .string a.2]
def kidCells (l : List Nat) : List Value := l.map fun (k : Nat) => I (k : Int)

theorem attrCells_length (l : List (Bytes × Bytes)) : (attrCells l).length = l.length * 2 := by
  induction l with
  | nil => rfl
  | cons a l ih => simp only [attrCells, List.flatMap_cons, List.length_append, List.length_cons, List.length_nil] at *; omega
theorem kidCells_length (l : List Nat) : (kidCells l).length = l.length := by simp [kidCells]
theorem kidCells_get (l : List Nat) (j : Nat) (h : j < l.length) : (kidCells l)[j]? = some (I (l[j] : Int)) := by simp [kidCells, h]

/-- Where a node lies, and its two slices. -/
structure NG where
  b : Nat
  av : Value
  kv : Value

def NodeRep (w : World) (g : NG) (n : Nd) : Prop :=
  At w g.b 139 #[I n.tag, g.av, .string n.text, g.kv, I (DT.upI n.up)] ∧ Row w 55 2 g.av n.attrs.length (attrCells n.attrs) ∧ Row w 3 1 g.kv n.kids.length (kidCells n.kids)

def NG.blocks (g : NG) : List Nat := g.b :: (g.av.ownBlock.toList ++ g.kv.ownBlock.toList)
def ngPtr : Option NG → Value
  | none => .pointer none
  | some g => .pointer (some ⟨g.b, 0, none⟩)
def ngBlocks : Option NG → List Nat
  | none => []
  | some g => g.blocks
def repBlocks (tb : Nat) (nv : Value) (G : List (Option NG)) : List Nat := tb :: (nv.ownBlock.toList ++ G.flatMap ngBlocks)

structure Rep (w : World) (tb : Nat) (T : DT) (nv : Value) (G : List (Option NG)) : Prop where
  tree : At w tb 143 #[I T.cap, I T.dep, I (T.count : Int), nv]
  len : G.length = T.nodes.length
  row : Row w 134 1 nv G.length (G.map ngPtr)
  node : ∀ i n, T.at_ i = some n → ∃ g, G[i]? = some (some g) ∧ NodeRep w g n
  none_ : ∀ i, i < G.length → T.at_ i = none → G[i]? = some none
  nodup : (repBlocks tb nv G).Nodup

theorem NodeRep.lt {w : World} {g : NG} {n : Nd} (h : NodeRep w g n) : ∀ b ∈ g.blocks, b < w.heap.size := by
  intro b hb
  simp only [NG.blocks, List.mem_cons, List.mem_append, Option.mem_toList] at hb
  rcases hb with rfl | hb | hb
  · exact h.1.lt
  · exact (h.2.1.lt b hb).2
  · exact (h.2.2.lt b hb).2
theorem NodeRep.same {w w' : World} {g : NG} {n : Nd} (h : NodeRep w g n) (hs : ∀ b ∈ g.blocks, w'.heap[b]? = w.heap[b]?) : NodeRep w' g n :=
  ⟨(hs g.b (by simp [NG.blocks])).trans h.1, h.2.1.same fun b hb => hs b (by simp [NG.blocks, hb]), h.2.2.same fun b hb => hs b (by simp [NG.blocks, hb])⟩

theorem mem_repBlocks_node {tb : Nat} {nv : Value} {G : List (Option NG)} {i : Nat} {g : NG} (h : G[i]? = some (some g)) {b : Nat} (hb : b ∈ g.blocks) : b ∈ repBlocks tb nv G := by
  simp only [repBlocks, List.mem_cons, List.mem_append, List.mem_flatMap]
  exact .inr (.inr ⟨some g, List.mem_of_getElem? h, hb⟩)

section
variable {w w' : World} {tb : Nat} {T : DT} {nv : Value} {G : List (Option NG)}
theorem Rep.lt (h : Rep w tb T nv G) : ∀ b ∈ repBlocks tb nv G, b < w.heap.size := by
  intro b hb
  simp only [repBlocks, List.mem_cons, List.mem_append, Option.mem_toList, List.mem_flatMap] at hb
  rcases hb with rfl | hb | ⟨o, ho, hb⟩
  · exact h.tree.lt
  · exact (h.row.lt b hb).2
  · cases o with
    | none => simp [ngBlocks] at hb
    | some g =>
      obtain ⟨i, hi, e⟩ := List.mem_iff_getElem.1 ho
      have hg : G[i]? = some (some g) := by rw [List.getElem?_eq_getElem hi, e]
      cases hn : T.at_ i with
      | none => rw [h.none_ i hi hn] at hg; cases hg
      | some n =>
        obtain ⟨g', hg', hr⟩ := h.node i n hn
        rw [hg] at hg'
        obtain rfl := Option.some.inj (Option.some.inj hg')
        exact hr.lt b hb
/-- All of it lies as it lay where its blocks do. -/
theorem Rep.same (h : Rep w tb T nv G) (hs : ∀ b ∈ repBlocks tb nv G, w'.heap[b]? = w.heap[b]?) : Rep w' tb T nv G where
  tree := (hs tb (by simp [repBlocks])).trans h.tree
  len := h.len
  row := h.row.same fun b hb => hs b (by simp [repBlocks, hb])
  node := fun i n hn => by
    obtain ⟨g, hg, hr⟩ := h.node i n hn
    exact ⟨g, hg, hr.same fun b hb => hs b (mem_repBlocks_node hg hb)⟩
  none_ := h.none_
  nodup := h.nodup
theorem Rep.keep (h : Rep w tb T nv G) (hb : Below w.heap.size w w') : Rep w' tb T nv G := h.same fun b hm => hb.block b (h.lt b hm)
end

/-- Only the blocks of S may have been written; all others of the old heap lie as they lay. -/
structure Only (S : Nat → Prop) (w w' : World) : Prop where
  os : w'.os = w.os
  tape : w'.tape = w.tape
  output : w'.output = w.output
  size : w.heap.size ≤ w'.heap.size
  block : ∀ k, k < w.heap.size → ¬ S k → w'.heap[k]? = w.heap[k]?

/-- A tree lies in memory, in blocks of S. -/
def Tree (w : World) (tb : Nat) (T : DT) (S : Nat → Prop) : Prop := ∃ nv G, Rep w tb T nv G ∧ ∀ b ∈ repBlocks tb nv G, S b

theorem Tree.keep {w w' : World} {tb : Nat} {T : DT} {S : Nat → Prop} (h : Tree w tb T S) (hb : Below w.heap.size w w') : Tree w' tb T S := by
  obtain ⟨nv, G, hr, hs⟩ := h
  exact ⟨nv, G, hr.keep hb, hs⟩

section
variable {S S' : Nat → Prop} {a b c : World}
theorem Only.refl (S : Nat → Prop) (w : World) : Only S w w := ⟨rfl, rfl, rfl, Nat.le_refl _, fun _ _ _ => rfl⟩
theorem Only.of_below (h : Below a.heap.size a b) : Only S a b := ⟨h.os, h.tape, h.output, h.size, fun k hk _ => h.block k hk⟩
theorem Only.mono (h : Only S a b) (hs : ∀ k, S k → S' k) : Only S' a b := ⟨h.os, h.tape, h.output, h.size, fun k hk hn => h.block k hk fun hx => hn (hs k hx)⟩
theorem Only.trans (h : Only S a b) (k : Only S' b c) (hs : ∀ i, i < a.heap.size → S' i → S i) : Only S a c :=
  ⟨k.os.trans h.os, k.tape.trans h.tape, k.output.trans h.output, Nat.le_trans h.size k.size, fun i hi hn => (k.block i (Nat.lt_of_lt_of_le hi h.size) fun hx => hn (hs i hi hx)).trans (h.block i hi hn)⟩
theorem Only.below (h : Only S a b) (hs : ∀ k, k < a.heap.size → ¬ S k) : Below a.heap.size a b := ⟨h.os, h.tape, h.output, h.size, fun k hk => h.block k hk (hs k hk)⟩
end
end Go.Proofs.Ytnnjlpkjpbbklaa

-- Rep2: A tree of package dom in memory, behind a change of one node, of the row of nodes, of the count. Conditions: none.
namespace Go.Proofs.Ytnnjlpkjpbbklaa
open Go.RowKit

theorem split_get {α : Type _} {l : List α} {i : Nat} {a : α} (h : l[i]? = some a) : ∃ l1 l2, l = l1 ++ a :: l2 ∧ l1.length = i ∧ ∀ b, l.set i b = l1 ++ b :: l2 := by
  induction l generalizing i with
  | nil => simp at h
  | cons x l ih =>
    cases i with
    | zero => simp at h; subst h; exact ⟨[], l, rfl, rfl, fun _ => rfl⟩
    | succ i =>
      simp at h
      obtain ⟨l1, l2, e, hl, hs⟩ := ih h
      exact ⟨x :: l1, l2, by rw [e]; rfl, by simp [hl], fun b => by simp [List.set_cons_succ, hs b]⟩

/-- Blocks of a row, one element's others: still each once. -/
theorem nodup_set {α : Type _} {A : List Nat} {l : List α} {f : α → List Nat} {i : Nat} {a a' : α} (h : (A ++ l.flatMap f).Nodup) (hi : l[i]? = some a) (ha : (f a').Nodup)
    (hx : ∀ x ∈ f a', x ∈ f a ∨ x ∉ A ++ l.flatMap f) : (A ++ (l.set i a').flatMap f).Nodup := by
  obtain ⟨l1, l2, e, _, hs⟩ := split_get hi
  rw [hs a']
  subst e
  simp only [List.flatMap_append, List.flatMap_cons, List.nodup_append, List.mem_append, not_or] at *
  obtain ⟨hA, ⟨h1, ⟨h2, h3, h4⟩, h5⟩, h6⟩ := h
  refine ⟨hA, ⟨h1, ⟨ha, h3, ?_⟩, ?_⟩, ?_⟩
  · intro x hxa y hy e
    subst e
    rcases hx x hxa with k | k
    · exact h4 x k x hy rfl
    · exact k.2.2.2 hy
  · intro x hx1 y hy e
    subst e
    rcases hy with hy | hy
    · rcases hx x hy with k | k
      · exact h5 x hx1 x (.inl k) rfl
      · exact k.2.1 hx1
    · exact h5 x hx1 x (.inr hy) rfl
  · intro x hx1 y hy e
    subst e
    rcases hy with hy | hy | hy
    · exact h6 x hx1 x (.inl hy) rfl
    · rcases hx x hy with k | k
      · exact h6 x hx1 x (.inr (.inl k)) rfl
      · exact k.1 hx1
    · exact h6 x hx1 x (.inr (.inr hy)) rfl

theorem mem_set {α : Type _} {A : List Nat} {l : List α} {f : α → List Nat} {i : Nat} {a' : α} {x : Nat} (h : x ∈ A ++ (l.set i a').flatMap f) : x ∈ f a' ∨ x ∈ A ++ l.flatMap f := by
  simp only [List.mem_append, List.mem_flatMap] at *
  rcases h with h | ⟨b, hb, hx⟩
  · exact .inr (.inl h)
  · rcases List.mem_or_eq_of_mem_set hb with hb | rfl
    · exact .inr (.inr ⟨b, hb, hx⟩)
    · exact .inl hx

namespace DT
theorem at_put (T : DT) (i j : Nat) (x : Option Nd) (hi : i < T.nodes.length) : (T.put i x).at_ j = if j = i then x else T.at_ j := by
  unfold at_ put
  simp only [List.getElem?_set]
  by_cases h : i = j
  · subst h; simp [hi]
  · have h' : ¬ j = i := fun e => h e.symm
    simp [h, h']
theorem put_length (T : DT) (i : Nat) (x : Option Nd) : (T.put i x).nodes.length = T.nodes.length := by simp [put]
theorem put_cap (T : DT) (i : Nat) (x : Option Nd) : (T.put i x).cap = T.cap := rfl
theorem put_dep (T : DT) (i : Nat) (x : Option Nd) : (T.put i x).dep = T.dep := rfl
theorem count_set (l : List (Option Nd)) (i : Nat) (a b : Option Nd) (h : l[i]? = some a) : (l.set i b).countP Option.isSome + (if a.isSome then 1 else 0) = l.countP Option.isSome + (if b.isSome then 1 else 0) := by
  obtain ⟨l1, l2, e, _, hs⟩ := split_get h
  rw [hs b]
  subst e
  simp only [List.countP_append, List.countP_cons]
  omega
theorem count_put (T : DT) (i : Nat) (b : Option Nd) (hi : i < T.nodes.length) : (T.put i b).count + (if (T.at_ i).isSome then 1 else 0) = T.count + (if b.isSome then 1 else 0) := by
  have h : T.nodes[i]? = some (T.at_ i) := by simp [at_, List.getElem?_eq_getElem hi]
  exact count_set _ _ _ _ h
end DT

theorem repBlocks_eq (tb : Nat) (nv : Value) (G : List (Option NG)) : repBlocks tb nv G = (tb :: nv.ownBlock.toList) ++ G.flatMap ngBlocks := by simp [repBlocks]

section
variable {w w' : World} {tb : Nat} {T : DT} {nv : Value} {G : List (Option NG)}

theorem Rep.node_ne (h : Rep w tb T nv G) {i : Nat} {g : NG} (hg : G[i]? = some (some g)) : ∀ b ∈ g.blocks, b ≠ tb ∧ nv.ownBlock ≠ some b := by
  intro b hb
  have hn := h.nodup
  rw [repBlocks_eq, List.nodup_append] at hn
  have hm : b ∈ G.flatMap ngBlocks := List.mem_flatMap.2 ⟨some g, List.mem_of_getElem? hg, hb⟩
  constructor
  · intro e; exact hn.2.2 tb (by simp) b hm e.symm
  · intro e; exact hn.2.2 b (by simp [e]) b hm rfl
theorem Rep.row_ne (h : Rep w tb T nv G) {b : Nat} (hb : nv.ownBlock = some b) : b ≠ tb := by
  intro e
  have hn := h.nodup
  subst e
  simp [repBlocks, hb] at hn
theorem Rep.node_apart (h : Rep w tb T nv G) {i j : Nat} {g g' : NG} (hg : G[i]? = some (some g)) (hg' : G[j]? = some (some g')) (hij : i ≠ j) : ∀ b ∈ g.blocks, b ∉ g'.blocks := by
  intro b hb hb'
  have hn := h.nodup
  obtain ⟨l1, l2, e, hl, _⟩ := split_get hg
  rw [repBlocks_eq, e, List.flatMap_append, List.flatMap_cons] at hn
  have h1 := (List.nodup_append.1 hn).2.1
  rw [e] at hg'
  have h2 := List.nodup_append.1 h1
  rcases Nat.lt_trichotomy j i with hji | hji | hji
  · rw [List.getElem?_append_left (by omega)] at hg'
    exact h2.2.2 b (List.mem_flatMap.2 ⟨_, List.mem_of_getElem? hg', hb'⟩) b (List.mem_append.2 (.inl hb)) rfl
  · omega
  · rw [List.getElem?_append_right (by omega)] at hg'
    obtain ⟨k, hk⟩ : ∃ k, j - l1.length = k + 1 := ⟨j - l1.length - 1, by omega⟩
    rw [hk, List.getElem?_cons_succ] at hg'
    have h3 := List.nodup_append.1 h2.2.1
    exact h3.2.2 b hb b (List.mem_flatMap.2 ⟨_, List.mem_of_getElem? hg', hb'⟩) rfl

theorem map_set_ptr (G : List (Option NG)) (i : Nat) (g g' : NG) (hg : G[i]? = some (some g)) (hb : g'.b = g.b) : (G.set i (some g')).map ngPtr = G.map ngPtr := by
  obtain ⟨l1, l2, e, _, hs⟩ := split_get hg
  rw [hs (some g')]
  subst e
  simp [ngPtr, hb]

/-- One node is changed where it lies. -/
theorem Rep.setNode (h : Rep w tb T nv G) {i : Nat} {n n' : Nd} {g g' : NG} (hn : T.at_ i = some n) (hg : G[i]? = some (some g)) (hb : g'.b = g.b) (hr : NodeRep w' g' n')
    (hs : ∀ b ∈ repBlocks tb nv G, b ∉ g.blocks → w'.heap[b]? = w.heap[b]?) (hnd : g'.blocks.Nodup) (hnew : ∀ b ∈ g'.blocks, b ∈ g.blocks ∨ w.heap.size ≤ b) :
    Rep w' tb (T.put i (some n')) nv (G.set i (some g')) := by
  have hi := DT.at_lt hn
  have hne := h.node_ne hg
  have hcount : (T.put i (some n')).count = T.count := by
    have := T.count_put i (some n') hi
    rw [hn] at this
    simpa using this
  constructor
  · show At _ _ _ #[I T.cap, I T.dep, I ((T.put i (some n')).count : Int), nv]
    rw [hcount]
    exact (hs tb (by simp [repBlocks]) fun hb => (hne tb hb).1 rfl).trans h.tree
  · rw [List.length_set, DT.put_length]; exact h.len
  · rw [List.length_set, map_set_ptr G i g g' hg hb]
    exact h.row.same fun b hb => hs b (by simp [repBlocks, hb]) fun hb' => (hne b hb').2 hb
  · intro j m hm
    rw [T.at_put i j _ hi] at hm
    by_cases hji : j = i
    · subst hji
      simp at hm
      subst hm
      exact ⟨g', by rw [List.getElem?_set]; simp [h.len, hi], hr⟩
    · rw [if_neg hji] at hm
      obtain ⟨k, hk, hrk⟩ := h.node j m hm
      refine ⟨k, by rw [List.getElem?_set_ne (fun e => hji e.symm)]; exact hk, hrk.same fun b hb => hs b (mem_repBlocks_node hk hb) ?_⟩
      exact h.node_apart hk hg hji b hb
  · intro j hj hm
    rw [List.length_set] at hj
    rw [T.at_put i j _ hi] at hm
    by_cases hji : j = i
    · rw [if_pos hji] at hm; cases hm
    · rw [if_neg hji] at hm
      rw [List.getElem?_set_ne (fun e => hji e.symm)]
      exact h.none_ j hj hm
  · rw [repBlocks_eq]
    refine nodup_set (a := some g) (by rw [← repBlocks_eq]; exact h.nodup) hg hnd fun x hx => ?_
    rcases hnew x hx with k | k
    · exact .inl k
    · right
      rw [← repBlocks_eq]
      intro hm
      have := h.lt x hm
      omega

theorem Rep.set_blocks {i : Nat} {x : Option NG} {S : Nat → Prop} (hS : ∀ b ∈ repBlocks tb nv G, S b) (hx : ∀ b ∈ ngBlocks x, S b) : ∀ b ∈ repBlocks tb nv (G.set i x), S b := by
  intro b hb
  rw [repBlocks_eq] at hb
  rcases mem_set hb with k | k
  · exact hx b k
  · exact hS b (by rw [repBlocks_eq]; exact k)

/-- A place of the row of nodes is written: a new node, or none any more; the count is written too. -/
theorem Rep.setPlace (h : Rep w tb T nv G) {i : Nat} {x : Option Nd} {y : Option NG} (hi : i < T.nodes.length)
    (ht : At w' tb 143 #[I T.cap, I T.dep, I ((T.put i x).count : Int), nv]) (hrow : Row w' 134 1 nv G.length ((G.set i y).map ngPtr))
    (hxy : ∀ n, x = some n → ∃ g, y = some g ∧ NodeRep w' g n) (hx0 : x = none → y = none)
    (hs : ∀ b ∈ repBlocks tb nv G, b ≠ tb → nv.ownBlock ≠ some b → w'.heap[b]? = w.heap[b]?) (hnd : (ngBlocks y).Nodup) (hnew : ∀ b ∈ ngBlocks y, b ∉ repBlocks tb nv G) :
    Rep w' tb (T.put i x) nv (G.set i y) := by
  have hlen := h.len
  constructor
  · exact ht
  · rw [List.length_set, DT.put_length]; exact h.len
  · rw [List.length_set]; exact hrow
  · intro j m hm
    rw [T.at_put i j _ hi] at hm
    by_cases hji : j = i
    · subst hji
      simp at hm
      obtain ⟨g, e, hr⟩ := hxy m hm
      exact ⟨g, by rw [List.getElem?_set]; simp [hlen, hi, e], hr⟩
    · rw [if_neg hji] at hm
      obtain ⟨k, hk, hrk⟩ := h.node j m hm
      refine ⟨k, by rw [List.getElem?_set_ne (fun e => hji e.symm)]; exact hk, hrk.same fun b hb => hs b (mem_repBlocks_node hk hb) (h.node_ne hk b hb).1 (h.node_ne hk b hb).2⟩
  · intro j hj hm
    rw [List.length_set] at hj
    rw [T.at_put i j _ hi] at hm
    by_cases hji : j = i
    · subst hji
      simp at hm
      rw [List.getElem?_set]; simp [hlen, hi, hx0 hm]
    · rw [if_neg hji] at hm
      rw [List.getElem?_set_ne (fun e => hji e.symm)]
      exact h.none_ j hj hm
  · rw [repBlocks_eq]
    obtain ⟨o, ho⟩ : ∃ o, G[i]? = some o := ⟨_, List.getElem?_eq_getElem (by omega)⟩
    refine nodup_set (a := o) (by rw [← repBlocks_eq]; exact h.nodup) ho hnd fun b hb => ?_
    right
    rw [← repBlocks_eq]
    exact hnew b hb

/-- The row of nodes grew by a place. -/
theorem Rep.grow (h : Rep w tb T nv G) {nv' : Value} (ht : At w' tb 143 #[I T.cap, I T.dep, I (T.count : Int), nv']) (hrow : Row w' 134 1 nv' (G.length + 1) (G.map ngPtr ++ [.pointer none]))
    (hs : ∀ b ∈ repBlocks tb nv G, b ≠ tb → nv.ownBlock ≠ some b → w'.heap[b]? = w.heap[b]?) (hnew : ∀ b, nv'.ownBlock = some b → nv.ownBlock = some b ∨ w.heap.size ≤ b) :
    Rep w' tb { T with nodes := T.nodes ++ [none] } nv' (G ++ [none]) := by
  have hlen := h.len
  have hat : ∀ j, ({ T with nodes := T.nodes ++ [none] } : DT).at_ j = T.at_ j := by
    intro j
    unfold DT.at_
    simp only [List.getElem?_append]
    by_cases hj : j < T.nodes.length
    · simp [hj]
    · rw [if_neg hj, List.getElem?_eq_none (l := T.nodes) (by omega)]
      cases hk : j - T.nodes.length <;> simp
  constructor
  · show At _ _ _ #[I T.cap, I T.dep, I ((T.nodes ++ [none]).countP Option.isSome : Int), nv']
    have : (T.nodes ++ [none]).countP Option.isSome = T.count := by simp [DT.count]
    rw [this]; exact ht
  · simp [hlen]
  · simpa [ngPtr] using hrow
  · intro j m hm
    rw [hat] at hm
    obtain ⟨k, hk, hrk⟩ := h.node j m hm
    refine ⟨k, ?_, hrk.same fun b hb => hs b (mem_repBlocks_node hk hb) (h.node_ne hk b hb).1 (h.node_ne hk b hb).2⟩
    rw [List.getElem?_append_left (by have := (List.getElem?_eq_some_iff.1 hk).1; omega)]
    exact hk
  · intro j hj hm
    rw [hat] at hm
    by_cases hjl : j < G.length
    · rw [List.getElem?_append_left hjl]; exact h.none_ j hjl hm
    · rw [List.getElem?_append_right (by omega)]
      simp at hj
      have : j - G.length = 0 := by omega
      rw [this]; rfl
  · have hn := h.nodup
    have hl := h.lt
    simp only [repBlocks, List.flatMap_append, List.flatMap_cons, List.flatMap_nil, ngBlocks, List.append_nil, List.nodup_cons, List.nodup_append, List.mem_append, not_or] at *
    refine ⟨⟨?_, hn.1.2⟩, ⟨by cases nv'.ownBlock <;> simp, hn.2.2.1, ?_⟩⟩
    · intro hm
      rcases hnew tb (by simpa using hm) with k | k
      · exact hn.1.1 (by simp [k])
      · have := hl tb (by simp); omega
    · intro a ha b hb e
      subst e
      rcases hnew a (by simpa using ha) with k | k
      · exact hn.2.2.2 a (by simp [k]) a hb rfl
      · have := hl a (by simp only [List.mem_cons, List.mem_append]; exact .inr (.inr hb)); omega
end
end Go.Proofs.Ytnnjlpkjpbbklaa

-- DomRead: What package dom tells of a tree: get, Has, Tag, Parent, Told, Count. Conditions: the tree lies in memory.
namespace Go.Proofs.Ytnnjlpkjpbbklaa
open Go.RowKit

def nodePtr (G : List (Option NG)) (id : Int) : Value := if id < 0 then .pointer none else ngPtr ((G[id.toNat]?).getD none)

section
variable {w : World} {tb : Nat} {T : DT} {nv : Value} {G : List (Option NG)}
theorem Rep.ptr_some (h : Rep w tb T nv G) {id : Int} {n : Nd} (hn : T.get id = some n) : ∃ g, nodePtr G id = .pointer (some ⟨g.b, 0, none⟩) ∧ NodeRep w g n ∧ G[id.toNat]? = some (some g) := by
  obtain ⟨h0, h1, _⟩ := DT.get_some hn
  obtain ⟨g, hg, hr⟩ := h.node _ n h1
  refine ⟨g, ?_, hr, hg⟩
  unfold nodePtr
  rw [if_neg (by omega), hg]
  rfl
theorem Rep.ptr_none (h : Rep w tb T nv G) {id : Int} (hn : T.get id = none) : nodePtr G id = .pointer none := by
  unfold nodePtr
  split
  · rfl
  · rename_i hid
    have h1 : T.at_ id.toNat = none := by simpa [DT.get, hid] using hn
    by_cases hlt : id.toNat < G.length
    · rw [h.none_ _ hlt h1]; rfl
    · rw [List.getElem?_eq_none (by omega)]; rfl

set_option maxHeartbeats 400000 in
theorem get_any (h : Rep w tb T nv G) (hl : T.nodes.length ≤ 2000) (id : Int) :
    Calls Try.prog 112 #[.pointer (some ⟨tb, 0, none⟩), .int .i64 id] w fun e w' => e = .returned (nodePtr G id) ∧ w = w' := by
  have hc := h.tree.cell
  have hlen := h.len
  by_cases h0 : id < 0
  · have hd : decide (id < 0) = true := by simp [h0]
    have e : nodePtr G id = .pointer none := by simp [nodePtr, h0]
    rw [e]
    clear h e hlen
    go_enter Try.func112, Try.ntmps112
    go_wp2_with fail
    go_ret
    exact ⟨rfl, rfl⟩
  · have hd : decide (id < 0) = false := by simp; omega
    obtain ⟨k, rfl⟩ : ∃ k : Nat, id = k := ⟨id.toNat, by omega⟩
    by_cases h1 : k < G.length
    · obtain ⟨g, cap, hv, hcap, hmax, hg, hcell⟩ := h.row.open_ (by omega)
      have hk := hcell k h1
      have e : nodePtr G (k : Int) = ngPtr ((G[k]?).getD none) := by unfold nodePtr; rw [if_neg (by omega)]; simp
      rw [List.getElem?_map, List.getElem?_eq_getElem h1] at hk
      rw [e, List.getElem?_eq_getElem h1]
      obtain ⟨p, hp⟩ : ∃ p, ngPtr (G[k]) = .pointer p := by cases G[k] <;> exact ⟨_, rfl⟩
      simp only [Option.map_some, hp] at hk
      simp only [Option.getD_some, hp]
      subst hv
      have hn : ((G.length : Nat) : Int) ≤ 2000 := by omega
      have hge : ¬ (G.length ≤ k) := by omega
      clear e hp hcell hlen h
      generalize G.length = n at *
      go_enter Try.func112, Try.ntmps112
      go_wp2_with fail
      go_ret
      exact ⟨rfl, rfl⟩
    · obtain ⟨A, cap, hv, hcap, hmax, hA⟩ := h.row.form
      have e : nodePtr G (k : Int) = .pointer none := by unfold nodePtr; rw [if_neg (by omega), List.getElem?_eq_none (by omega)]; rfl
      rw [e]
      subst hv
      have hn : ((G.length : Nat) : Int) ≤ 2000 := by omega
      have hge : G.length ≤ k := by omega
      generalize G.length = n at *
      clear e hlen h hA
      go_enter Try.func112, Try.ntmps112
      go_wp2_with fail
      go_ret
      exact ⟨rfl, rfl⟩

theorem get_none (h : Rep w tb T nv G) (hl : T.nodes.length ≤ 2000) {id : Int} (hn : T.get id = none) :
    Calls Try.prog 112 #[.pointer (some ⟨tb, 0, none⟩), .int .i64 id] w fun e w' => e = .returned (.pointer none) ∧ w = w' := by
  have := get_any h hl id
  rw [h.ptr_none hn] at this
  exact this
theorem get_some (h : Rep w tb T nv G) (hl : T.nodes.length ≤ 2000) {id : Int} {n : Nd} (hn : T.get id = some n) :
    ∃ g, NodeRep w g n ∧ G[id.toNat]? = some (some g) ∧ Calls Try.prog 112 #[.pointer (some ⟨tb, 0, none⟩), .int .i64 id] w fun e w' => e = .returned (.pointer (some ⟨g.b, 0, none⟩)) ∧ w = w' := by
  obtain ⟨g, e, hr, hg⟩ := h.ptr_some hn
  have := get_any h hl id
  rw [e] at this
  exact ⟨g, hr, hg, this⟩

set_option maxHeartbeats 400000 in
theorem has_any (h : Rep w tb T nv G) (hl : T.nodes.length ≤ 2000) (id : Int) :
    Calls Try.prog 42 #[.pointer (some ⟨tb, 0, none⟩), .int .i64 id] w fun e w' => e = .returned (.bool (T.has id)) ∧ w = w' := by
  cases hn : T.get id with
  | none =>
    have e : T.has id = false := by simp [DT.has, hn]
    have H := Lib.hid (get_none h hl hn)
    rw [e]
    clear h hn e
    go_enter Try.func42, Try.ntmps42
    go_wp2_with (with_reducible refine H.out.mono ?_; rintro e w' ⟨rfl, rfl⟩)
    go_ret
    exact ⟨rfl, rfl⟩
  | some n =>
    have e : T.has id = true := by simp [DT.has, hn]
    obtain ⟨g, hr, _, H⟩ := get_some h hl hn
    have H := Lib.hid H
    rw [e]
    clear h hn e hr
    go_enter Try.func42, Try.ntmps42
    go_wp2_with (with_reducible refine H.out.mono ?_; rintro e w' ⟨rfl, rfl⟩)
    go_ret
    exact ⟨rfl, rfl⟩

set_option maxHeartbeats 400000 in
theorem tag_any (h : Rep w tb T nv G) (hl : T.nodes.length ≤ 2000) (id : Int) :
    Calls Try.prog 61 #[.pointer (some ⟨tb, 0, none⟩), .int .i64 id] w fun e w' => e = .returned (.int .i64 (T.tagOf id)) ∧ w = w' := by
  cases hn : T.get id with
  | none =>
    have e : T.tagOf id = -1 := by simp [DT.tagOf, hn]
    have H := Lib.hid (get_none h hl hn)
    rw [e]
    clear h hn e
    go_enter Try.func61, Try.ntmps61
    go_wp2_with (with_reducible refine H.out.mono ?_; rintro e w' ⟨rfl, rfl⟩)
    go_ret
    exact ⟨rfl, rfl⟩
  | some n =>
    have e : T.tagOf id = n.tag := by simp [DT.tagOf, hn]
    obtain ⟨g, hr, _, H⟩ := get_some h hl hn
    have hc := hr.1.cell
    have H := Lib.hid H
    rw [e]
    clear h hn e hr
    go_enter Try.func61, Try.ntmps61
    go_wp2_with (with_reducible refine H.out.mono ?_; rintro e w' ⟨rfl, rfl⟩)
    go_ret
    exact ⟨rfl, rfl⟩

set_option maxHeartbeats 400000 in
theorem parent_any (h : Rep w tb T nv G) (hl : T.nodes.length ≤ 2000) (id : Int) :
    Calls Try.prog 49 #[.pointer (some ⟨tb, 0, none⟩), .int .i64 id] w fun e w' => e = .returned (.int .i64 (T.upOf id)) ∧ w = w' := by
  cases hn : T.get id with
  | none =>
    have e : T.upOf id = -1 := by simp [DT.upOf, hn]
    have H := Lib.hid (get_none h hl hn)
    rw [e]
    clear h hn e
    go_enter Try.func49, Try.ntmps49
    go_wp2_with (with_reducible refine H.out.mono ?_; rintro e w' ⟨rfl, rfl⟩)
    go_ret
    exact ⟨rfl, rfl⟩
  | some n =>
    have e : T.upOf id = DT.upI n.up := by simp [DT.upOf, hn]
    obtain ⟨g, hr, _, H⟩ := get_some h hl hn
    have hc := hr.1.cell
    have H := Lib.hid H
    rw [e]
    clear h hn e hr
    generalize DT.upI n.up = u at *
    go_enter Try.func49, Try.ntmps49
    go_wp2_with (with_reducible refine H.out.mono ?_; rintro e w' ⟨rfl, rfl⟩)
    go_ret
    exact ⟨rfl, rfl⟩

set_option maxHeartbeats 400000 in
theorem told_any (h : Rep w tb T nv G) (hl : T.nodes.length ≤ 2000) (id : Int) :
    Calls Try.prog 63 #[.pointer (some ⟨tb, 0, none⟩), .int .i64 id] w fun e w' => e = .returned (.string (T.textOf id)) ∧ w = w' := by
  cases hn : T.get id with
  | none =>
    have e : T.textOf id = ByteArray.empty := by simp [DT.textOf, hn]
    have H := Lib.hid (get_none h hl hn)
    rw [e]
    clear h hn e
    go_enter Try.func63, Try.ntmps63
    go_wp2_with (with_reducible refine H.out.mono ?_; rintro e w' ⟨rfl, rfl⟩)
    go_ret
    exact ⟨rfl, rfl⟩
  | some n =>
    have e : T.textOf id = n.text := by simp [DT.textOf, hn]
    obtain ⟨g, hr, _, H⟩ := get_some h hl hn
    have hc := hr.1.cell
    have H := Lib.hid H
    rw [e]
    clear h hn e hr
    go_enter Try.func63, Try.ntmps63
    go_wp2_with (with_reducible refine H.out.mono ?_; rintro e w' ⟨rfl, rfl⟩)
    go_ret
    exact ⟨rfl, rfl⟩

set_option maxHeartbeats 400000 in
theorem count_any (h : Rep w tb T nv G) :
    Calls Try.prog 34 #[.pointer (some ⟨tb, 0, none⟩)] w fun e w' => e = .returned (.int .i64 (T.count : Int)) ∧ w = w' := by
  have hc := h.tree.cell
  generalize (T.count : Int) = c at *
  clear h
  go_enter Try.func34, Try.ntmps34
  go_wp2_with fail
  go_ret
  exact ⟨rfl, rfl⟩

set_option maxHeartbeats 400000 in
theorem room_any (h : Rep w tb T nv G) :
    Calls Try.prog 60 #[.pointer (some ⟨tb, 0, none⟩)] w fun e w' => e = .returned (.tuple #[.int .i64 T.cap, .int .i64 T.dep]) ∧ ∃ n, w' = w.drewN n := by
  have hc := h.tree.cell
  clear h
  go_enter Try.func60, Try.ntmps60
  go_wp2_with fail
  go_quiet (fail)
  go_wp2_with fail
  go_ret2
  exact ⟨rfl, _, rfl⟩
end
end Go.Proofs.Ytnnjlpkjpbbklaa

-- DomRead2: slices.Clone, slices.Index as this program uses them; Kids, Attrs, Index of package dom. Conditions: the tree lies in memory.
namespace Go.Proofs.Ytnnjlpkjpbbklaa
open Go.RowKit

theorem infoAttr : (Try.prog.info? 55).map (fun i => (i.zero, i.size, i.bytes)) = some (some (.agg #[.string ByteArray.empty, .string ByteArray.empty]), 2, 32) := by kernel_rfl

/-- A call that hands back a slice of its own. -/
def RetRow (e : TypeId) (size n : Nat) (xs : List Value) (w : World) (r : Ending) (w' : World) : Prop :=
  ∃ v, r = .returned v ∧ w'.ownsRow w.heap.size e size v n xs ∧ Below w.heap.size w w'

set_option maxHeartbeats 400000 in
theorem cloneInt_any {w : World} {v : Value} {n : Nat} {xs : List Value} (h : Row w 3 1 v n xs) (hn : n ≤ 1000000) (h1 : ∀ u ∈ xs, u.oneCell' = true) :
    Calls Try.prog 114 #[v] w (RetRow 3 1 n xs w) := by
  have heq := fun (W : World) (A : Option Addr) (l c : Nat) => Lib.run_eql_slice_nil (P := Try.prog) W 81 3 A l c 0 0 Try.underlying81
  obtain ⟨i0, hi, hz0, hz1, hz2⟩ := info_parts infoInt
  rcases h.2 with ⟨rfl, h0⟩ | ⟨g, cap, cur, rfl, _, hg, hc, hm, hs, ht⟩
  · subst h0
    have hx : xs = [] := List.eq_nil_of_length_eq_zero (by simpa using h.1)
    subst hx
    clear h
    go_enter Try.func114, Try.ntmps114
    go_wp2_with fail
    go_ret
    exact ⟨_, rfl, World.ownsRow_nil _ _ _ _, Below.refl _ _⟩
  · have hcells := h.cells (g := g) rfl
    have hlt := (h.lt g rfl).2
    have hl := h.1
    have HH := Lib.hid (And.intro hcells (And.intro hl h1))
    clear hcells hl h1 h hs ht hg
    go_enter Try.func114, Try.ntmps114
    go_wp2_with (at_builtin; refine wpList_append_own _ rfl (.tmp 5) (.tmp 6) 81 rfl w.heap.size 3 i0 (.int .i64 0) 1 8 Try.underlying81 hi hz0 hz1 hz2 rfl (by decide) (.slice (some ⟨w.heap.size, 0, none⟩) 0 0) 0 [] rfl ?own ⟨g, 0, none⟩ n cap xs rfl ?c1 ?c2 ?c3 ?c4 ?c5 ?c6 ?grow)
    case own => exact World.ownsRow_made w #[] 0 (Nat.le_refl _) (Nat.zero_le _) (by simp)
    case c1 => exact HH.out.2.1
    case c2 =>
      intro j u hu
      have := HH.out.1 j u hu
      rw [Addr.add_lit] at this ⊢
      rw [World.cell?_alloc_lt _ _ _ hlt]
      exact this
    case c3 => exact HH.out.2.2
    case c4 => unfold maxLen; omega
    case c5 => omega
    case c6 => simp
    case grow =>
      intro v' w' hown hgrow hnil
      have hbel : Below w.heap.size w w' := ((Below.refl _ _).alloc (Nat.le_refl _) _).grown hgrow (by simp) (fun k h => by simp [Value.ownBlock] at h; omega)
      have HO := Lib.hid (And.intro hown hbel)
      clear hown hgrow hnil hbel
      go_wp2_with fail
      go_ret
      exact ⟨_, rfl, by simpa using HO.out.1, HO.out.2⟩

set_option maxHeartbeats 400000 in
theorem cloneAttr_any {w : World} {v : Value} {n : Nat} {xs : List Value} (h : Row w 55 2 v n xs) (hn : n ≤ 1000000) (h1 : ∀ u ∈ xs, u.oneCell' = true) :
    Calls Try.prog 113 #[v] w (RetRow 55 2 n xs w) := by
  have heq := fun (W : World) (A : Option Addr) (l c : Nat) => Lib.run_eql_slice_nil (P := Try.prog) W 38 55 A l c 0 0 Try.underlying38
  obtain ⟨i0, hi, hz0, hz1, hz2⟩ := info_parts infoAttr
  rcases h.2 with ⟨rfl, h0⟩ | ⟨g, cap, cur, rfl, _, hg, hc, hm, hs, ht⟩
  · subst h0
    have hx : xs = [] := List.eq_nil_of_length_eq_zero (by simpa using h.1)
    subst hx
    clear h
    go_enter Try.func113, Try.ntmps113
    go_wp2_with fail
    go_ret
    exact ⟨_, rfl, World.ownsRow_nil _ _ _ _, Below.refl _ _⟩
  · have hcells := h.cells (g := g) rfl
    have hlt := (h.lt g rfl).2
    have hl := h.1
    have HH := Lib.hid (And.intro hcells (And.intro hl h1))
    clear hcells hl h1 h hs ht hg
    go_enter Try.func113, Try.ntmps113
    go_wp2_with (at_builtin; refine wpList_append_own _ rfl (.tmp 5) (.tmp 6) 38 rfl w.heap.size 55 i0 (.agg #[.string ByteArray.empty, .string ByteArray.empty]) 2 32 Try.underlying38 hi hz0 hz1 hz2 rfl (by decide) (.slice (some ⟨w.heap.size, 0, none⟩) 0 0) 0 [] rfl ?own ⟨g, 0, none⟩ n cap xs rfl ?c1 ?c2 ?c3 ?c4 ?c5 ?c6 ?grow)
    case own => exact World.ownsRow_made w #[] 0 (Nat.le_refl _) (Nat.zero_le _) (by simp)
    case c1 => exact HH.out.2.1
    case c2 =>
      intro j u hu
      have := HH.out.1 j u hu
      rw [Addr.add_lit] at this ⊢
      rw [World.cell?_alloc_lt _ _ _ hlt]
      exact this
    case c3 => exact HH.out.2.2
    case c4 => unfold maxLen; omega
    case c5 => omega
    case c6 => simp
    case grow =>
      intro v' w' hown hgrow hnil
      have hbel : Below w.heap.size w w' := ((Below.refl _ _).alloc (Nat.le_refl _) _).grown hgrow (by simp) (fun k h => by simp [Value.ownBlock] at h; omega)
      have HO := Lib.hid (And.intro hown hbel)
      clear hown hgrow hnil hbel
      go_wp2_with fail
      go_ret
      exact ⟨_, rfl, by simpa using HO.out.1, HO.out.2⟩

theorem kidCells_one (l : List Nat) : ∀ u ∈ kidCells l, u.oneCell' = true := by
  intro u hu
  obtain ⟨k, _, rfl⟩ := List.mem_map.1 hu
  rfl
theorem attrCells_one (l : List (Bytes × Bytes)) : ∀ u ∈ attrCells l, u.oneCell' = true := by
  intro u hu
  obtain ⟨a, _, hu⟩ := List.mem_flatMap.1 hu
  simp at hu
  rcases hu with rfl | rfl <;> rfl
end Go.Proofs.Ytnnjlpkjpbbklaa

-- DomRead3: slices.Index, and Kids, Attrs, Index of package dom. Conditions: the tree lies in memory.
namespace Go.Proofs.Ytnnjlpkjpbbklaa
open Go.RowKit

/-- Where a number first stands in a row; below 0: nowhere. -/
def idxI (l : List Int) (x : Int) : Int := if x ∈ l then (l.idxOf x : Int) else -1

theorem idxI_found {l : List Int} {x : Int} {k : Nat} (hk : k < l.length) (he : l.getD k 0 = x) (hno : x ∉ l.take k) : idxI l x = (k : Int) := by
  have hm : x ∈ l := by
    rw [← he]; simp [List.getD, List.getElem?_eq_getElem hk]
  rw [idxI, if_pos hm]
  congr 1
  have h1 : l = l.take k ++ l.drop k := (List.take_append_drop k l).symm
  have h2 : l.drop k = l[k] :: l.drop (k + 1) := List.drop_eq_getElem_cons hk
  have h3 : l[k] = x := by rw [← he]; simp [List.getD, List.getElem?_eq_getElem hk]
  rw [h1, List.idxOf_append, if_neg hno, h2, h3]
  simp; omega

set_option maxHeartbeats 400000 in
theorem index_any {w : World} {v : Value} {n : Nat} {zs : List Int} (h : Row w 3 1 v n (zs.map (Value.int .i64))) (hn : n ≤ 1000000) (x : Int) :
    Calls Try.prog 117 #[v, .int .i64 x] w fun e w' => e = .returned (.int .i64 (idxI zs x)) ∧ w = w' := by
  have hzl : zs.length = n := by simpa using h.1
  by_cases h0 : n = 0
  · subst h0
    have hz : zs = [] := List.eq_nil_of_length_eq_zero hzl
    obtain ⟨A, cap, rfl, _, _, _⟩ := h.form
    subst hz
    clear h
    go_enter Try.func117, Try.ntmps117
    go_wp2_with fail
    go_loop [5, 8] (fun _ i => i = .int .i64 0) (fun _ _ => 0)
    case atStart => rfl
    case round =>
      subst hrel
      go_wp2_with fail
      go_ret
      exact ⟨rfl, rfl⟩
  · obtain ⟨g, cap, rfl, hc, hm, hg, hcell⟩ := h.open_ (by omega)
    have HC := Lib.hid hcell
    have HZ := Lib.hid hzl
    clear hcell h hzl
    go_enter Try.func117, Try.ntmps117
    go_wp2_with fail
    go_loop [5, 8] (fun _ i => ∃ k : Nat, k ≤ n ∧ i = .int .i64 k ∧ Hid (x ∉ zs.take k)) (fun _ i => n - (intOf i).toNat)
    case atStart => exact ⟨0, Nat.zero_le _, rfl, by simp [Hid]⟩
    case round =>
      obtain ⟨k, hk, rfl, hno⟩ := hrel
      by_cases hlt : k < n
      · have hkl : k < zs.length := by have := HZ.out; omega
        have hcell := HC.out k hlt
        have hx : zs.getD k 0 = zs[k] := by simp [List.getD, List.getElem?_eq_getElem hkl]
        have hts : zs.take (k + 1) = zs.take k ++ [zs[k]] := List.take_succ_eq_append_getElem hkl
        rw [List.getElem?_map, List.getElem?_eq_getElem hkl, Option.map_some] at hcell
        have hf : zs[k] = x → idxI zs x = (k : Int) := fun e => idxI_found hkl (hx.trans e) hno.out
        generalize zs[k] = y at hcell hts hf
        have HT := Lib.hid (And.intro hts hf)
        clear hts hf hx hkl
        by_cases hxy : x = y
        · have hd : (x == y) = true := by simp [hxy]
          have HX := Lib.hid hxy
          clear hxy
          go_wp2_with fail
          go_ret
          exact ⟨ret_int (HT.out.2 HX.out.symm).symm, rfl⟩
        · have hd : (x == y) = false := by simp [hxy]
          have HX := Lib.hid hxy
          clear hxy
          go_wp2_with fail
          refine ⟨⟨k + 1, by omega, by go_num, ?_⟩, by simp [intOf]; omega⟩
          show x ∉ _
          rw [HT.out.1, List.mem_append]
          rintro (h1 | h1)
          · exact hno.out h1
          · exact HX.out (by simpa using h1)
      · have hkn : k = n := by omega
        subst hkn
        go_wp2_with fail
        go_ret
        refine ⟨ret_int ?_, rfl⟩
        have := hno.out
        rw [List.take_of_length_le (by have := HZ.out; omega)] at this
        rw [idxI, if_neg this]

theorem nodup_le : ∀ (n : Nat) (l : List Nat), l.Nodup → (∀ x ∈ l, x < n) → l.length ≤ n := by
  intro n
  induction n with
  | zero =>
    intro l _ h
    cases l with
    | nil => simp
    | cons a l => have := h a (by simp); omega
  | succ n ih =>
    intro l hl h
    have h1 := ih (l.erase n) (hl.erase n) (fun x hx => by
      have := h x (List.mem_of_mem_erase hx)
      have hne : x ≠ n := fun e => by subst e; exact (List.Nodup.not_mem_erase hl) hx
      omega)
    by_cases hn : n ∈ l
    · rw [List.length_erase_of_mem hn] at h1; omega
    · rw [List.erase_of_not_mem hn] at h1; omega

section
variable {w : World} {tb : Nat} {T : DT} {nv : Value} {G : List (Option NG)}

theorem kids_len (hW : T.WF) {i : Nat} {n : Nd} (hi : T.at_ i = some n) : n.kids.length ≤ T.nodes.length := by
  have h1 := hW.nodup i n hi
  have h2 : ∀ k ∈ n.kids, k ∈ List.range T.nodes.length := fun k hk => by
    obtain ⟨m, hm, _⟩ := hW.kid i n k hi hk
    exact List.mem_range.2 (DT.at_lt hm)
  exact nodup_le _ _ h1 fun k hk => List.mem_range.1 (h2 k hk)

set_option maxHeartbeats 400000 in
theorem kids_any (h : Rep w tb T nv G) (hW : T.WF) (id : Int) :
    Calls Try.prog 64 #[.pointer (some ⟨tb, 0, none⟩), .int .i64 id] w (RetRow 3 1 (T.kidsOf id).length (kidCells (T.kidsOf id)) w) := by
  have hl := hW.nodes_le
  cases hn : T.get id with
  | none =>
    have e : T.kidsOf id = [] := by simp [DT.kidsOf, hn]
    have H := Lib.hid (get_none h hl hn)
    rw [e]
    clear h hn e
    go_enter Try.func64, Try.ntmps64
    go_wp2_with ((with_reducible refine H.out.mono ?_); rintro e w' ⟨rfl, rfl⟩)
    go_ret
    exact ⟨_, rfl, World.ownsRow_nil _ _ _ _, Below.refl _ _⟩
  | some n =>
    have e : T.kidsOf id = n.kids := by simp [DT.kidsOf, hn]
    have hkl := kids_len hW (DT.get_some hn).2.1
    obtain ⟨g, hr, _, H⟩ := get_some h hl hn
    have hc := hr.1.cell
    have H := Lib.hid H
    have HK := Lib.hid (cloneInt_any hr.2.2 (by omega) (kidCells_one _))
    obtain ⟨A, cap, hv, _, _, _⟩ := hr.2.2.form
    rw [e]
    rw [hv] at hc HK
    clear h hn e hr hv hkl
    generalize n.kids.length = m at *
    go_enter Try.func64, Try.ntmps64
    go_wp2_with (first | ((with_reducible refine H.out.mono ?_); rintro e w' ⟨rfl, rfl⟩) | ((with_reducible refine HK.out.mono ?_); rintro e w1 ⟨v, rfl, hown, hb⟩; have HO := Lib.hid (And.intro hown hb); clear hown hb))
    go_ret
    exact ⟨v, rfl, HO.out.1, HO.out.2⟩

set_option maxHeartbeats 400000 in
theorem attrs_any (h : Rep w tb T nv G) (hW : T.WF) (id : Int) (ha : (T.attrsOf id).length ≤ 1000000) :
    Calls Try.prog 62 #[.pointer (some ⟨tb, 0, none⟩), .int .i64 id] w (RetRow 55 2 (T.attrsOf id).length (attrCells (T.attrsOf id)) w) := by
  have hl := hW.nodes_le
  cases hn : T.get id with
  | none =>
    have e : T.attrsOf id = [] := by simp [DT.attrsOf, hn]
    have H := Lib.hid (get_none h hl hn)
    rw [e]
    clear h hn e
    go_enter Try.func62, Try.ntmps62
    go_wp2_with ((with_reducible refine H.out.mono ?_); rintro e w' ⟨rfl, rfl⟩)
    go_ret
    exact ⟨_, rfl, World.ownsRow_nil _ _ _ _, Below.refl _ _⟩
  | some n =>
    have e : T.attrsOf id = n.attrs := by simp [DT.attrsOf, hn]
    obtain ⟨g, hr, _, H⟩ := get_some h hl hn
    have hc := hr.1.cell
    have H := Lib.hid H
    rw [e] at ha
    have HK := Lib.hid (cloneAttr_any hr.2.1 ha (attrCells_one _))
    obtain ⟨A, cap, hv, _, _, _⟩ := hr.2.1.form
    rw [e]
    rw [hv] at hc HK
    clear h hn e hr hv
    generalize n.attrs.length = m at *
    go_enter Try.func62, Try.ntmps62
    go_wp2_with (first | ((with_reducible refine H.out.mono ?_); rintro e w' ⟨rfl, rfl⟩) | ((with_reducible refine HK.out.mono ?_); rintro e w1 ⟨v, rfl, hown, hb⟩; have HO := Lib.hid (And.intro hown hb); clear hown hb))
    go_ret
    exact ⟨v, rfl, HO.out.1, HO.out.2⟩

theorem idxI_kids (l : List Nat) (id : Int) : idxI (l.map fun (k : Nat) => (k : Int)) id = if id.toNat ∈ l ∧ 0 ≤ id then (l.idxOf id.toNat : Int) else -1 := by
  unfold idxI
  by_cases h0 : 0 ≤ id
  · obtain ⟨k, rfl⟩ : ∃ k : Nat, id = k := ⟨id.toNat, by omega⟩
    have e1 : ((k : Int) ∈ l.map fun (k : Nat) => (k : Int)) ↔ k ∈ l := by
      constructor
      · intro h
        obtain ⟨a, ha, e⟩ := List.mem_map.1 h
        have : a = k := by omega
        rwa [← this]
      · intro h; exact List.mem_map.2 ⟨k, h, rfl⟩
    have e2 : (l.map fun (k : Nat) => (k : Int)).idxOf (k : Int) = l.idxOf k := by
      induction l with
      | nil => rfl
      | cons a l ih =>
        simp only [List.map_cons, List.idxOf_cons]
        by_cases hak : a = k
        · simp [hak]
        · have : ¬ ((a : Int) = k) := by omega
          have ih' := ih (by
            constructor
            · intro h
              obtain ⟨b, hb, e⟩ := List.mem_map.1 h
              have : b = k := by omega
              rwa [← this]
            · intro h; exact List.mem_map.2 ⟨k, h, rfl⟩)
          have b1 : ((a : Int) == (k : Int)) = false := beq_eq_false_iff_ne.2 this
          have b2 : (a == k) = false := beq_eq_false_iff_ne.2 hak
          rw [b1, b2, ih']
    simp only [e1, e2, Int.toNat_natCast, Int.natCast_nonneg, and_true]
  · have hn : id ∉ l.map fun (k : Nat) => (k : Int) := by
      intro h
      obtain ⟨a, _, e⟩ := List.mem_map.1 h
      omega
    rw [if_neg hn, if_neg (fun h => h0 h.2)]

theorem kidCells_map (l : List Nat) : kidCells l = (l.map fun (k : Nat) => (k : Int)).map (Value.int .i64) := by simp [kidCells]

set_option maxHeartbeats 400000 in
theorem indexOf_any (h : Rep w tb T nv G) (hW : T.WF) (id : Int) :
    Calls Try.prog 50 #[.pointer (some ⟨tb, 0, none⟩), .int .i64 id] w fun e w' => e = .returned (.int .i64 (T.indexOf id)) ∧ w = w' := by
  have hl := hW.nodes_le
  have HP := Lib.hid (parent_any h hl id)
  cases hn : T.get (T.upOf id) with
  | none =>
    have e : T.indexOf id = -1 := by simp [DT.indexOf, hn]
    have H := Lib.hid (get_none h hl hn)
    rw [e]
    clear h hn e
    generalize T.upOf id = u at *
    go_enter Try.func50, Try.ntmps50
    go_wp2_with (first | ((with_reducible refine HP.out.mono ?_); rintro e w' ⟨rfl, rfl⟩) | ((with_reducible refine H.out.mono ?_); rintro e w' ⟨rfl, rfl⟩))
    go_ret
    exact ⟨rfl, rfl⟩
  | some p =>
    have e : T.indexOf id = idxI (p.kids.map fun (k : Nat) => (k : Int)) id := by rw [idxI_kids]; simp [DT.indexOf, hn]
    have hkl := kids_len hW (DT.get_some hn).2.1
    obtain ⟨g, hr, _, H⟩ := get_some h hl hn
    have hc := hr.1.cell
    have H := Lib.hid H
    have hrow := hr.2.2
    rw [kidCells_map] at hrow
    have HK := Lib.hid (index_any hrow (by omega) id)
    obtain ⟨A, cap, hv, _, _, _⟩ := hr.2.2.form
    rw [e]
    rw [hv] at hc HK
    clear h hn e hr hv hkl hrow
    generalize T.upOf id = u at *
    generalize p.kids.length = m at *
    generalize idxI (p.kids.map fun (k : Nat) => (k : Int)) id = r at *
    go_enter Try.func50, Try.ntmps50
    go_wp2_with (first | ((with_reducible refine HP.out.mono ?_); rintro e w' ⟨rfl, rfl⟩) | ((with_reducible refine H.out.mono ?_); rintro e w' ⟨rfl, rfl⟩) | ((with_reducible refine HK.out.mono ?_); rintro e w' ⟨rfl, rfl⟩))
    go_ret
    exact ⟨rfl, rfl⟩
end
end Go.Proofs.Ytnnjlpkjpbbklaa

-- DomRead4: within, Live, Depth, Height of package dom. Conditions: the tree lies in memory and is sound.
namespace Go.Proofs.Ytnnjlpkjpbbklaa
open Go.RowKit

section
variable {w : World} {tb : Nat} {T : DT} {nv : Value} {G : List (Option NG)}

theorem WF.pos (h : T.WF) : 0 < T.nodes.length := by
  obtain ⟨n, hn, _⟩ := h.host
  exact Nat.lt_of_le_of_lt (Nat.zero_le _) (DT.at_lt hn)

/-- The row of nodes, opened. -/
theorem Rep.nodes_open (h : Rep w tb T nv G) (hW : T.WF) : ∃ g cap, nv = .slice (some ⟨g, 0, none⟩) T.nodes.length cap ∧ T.nodes.length ≤ cap ∧ cap ≤ maxLen ∧
    ∀ i n, T.at_ i = some n → ∃ gb, w.cell? ⟨g, i, none⟩ = some (.pointer (some ⟨gb.b, 0, none⟩)) ∧ NodeRep w gb n ∧ G[i]? = some (some gb) := by
  have hp := WF.pos hW
  obtain ⟨g, cap, hv, hc, hm, hg, hcell⟩ := h.row.open_ (by rw [h.len]; exact hp)
  rw [h.len] at hv hc
  refine ⟨g, cap, hv, hc, hm, fun i n hi => ?_⟩
  obtain ⟨gb, hgb, hr⟩ := h.node i n hi
  have hlt : i < G.length := by rw [h.len]; exact DT.at_lt hi
  refine ⟨gb, ?_, hr, hgb⟩
  rw [hcell i hlt, List.getElem?_map, hgb]
  rfl

def curOk (T : DT) (c : Option Nat) : Prop := ∀ j, c = some j → ∃ m, T.at_ j = some m
def curMeasure (T : DT) (v : Value) : Nat := if intOf v < 0 then 0 else T.depthF DT.fuel (intOf v).toNat + 1

theorem upI_some (j : Nat) : DT.upI (some j) = (j : Int) := rfl
theorem upI_none : DT.upI none = -1 := rfl

theorem curMeasure_some (T : DT) (j : Nat) : curMeasure T (.int .i64 (j : Int)) = T.depthF DT.fuel j + 1 := by
  show (if (j : Int) < 0 then 0 else T.depthF DT.fuel (j : Int).toNat + 1) = _
  rw [if_neg (by omega)]
  rfl
theorem curMeasure_none (T : DT) : curMeasure T (.int .i64 (DT.upI none)) = 0 := rfl

set_option maxHeartbeats 400000 in
theorem within_any (h : Rep w tb T nv G) (hW : T.WF) {i : Nat} {n : Nd} (hi : T.at_ i = some n) (o : Nat) (ho : o ≤ 1000000) :
    Calls Try.prog 115 #[.pointer (some ⟨tb, 0, none⟩), .int .i64 i, .int .i64 o] w fun e w' => e = .returned (.bool (T.within i o)) ∧ w = w' := by
  have hl := hW.nodes_le
  obtain ⟨g, cap, rfl, hcap, hmax, hnode⟩ := h.nodes_open hW
  have hc := h.tree.cell
  have HN := Lib.hid hnode
  have HW := Lib.hid hW
  have HI := Lib.hid hi
  have hil := DT.at_lt hi
  have R0 := Lib.hid (show T.within i o = T.within i o from rfl)
  obtain ⟨r, hr⟩ : ∃ r, r = T.within i o := ⟨_, rfl⟩
  have HR := Lib.hid hr
  rw [← hr]
  have hnl : ((T.nodes.length : Nat) : Int) ≤ 2000 := by omega
  have hlen : ∀ j m, T.at_ j = some m → j < T.nodes.length := fun j m hj => DT.at_lt hj
  have HL := Lib.hid hlen
  clear hnode hr hi h hW hlen R0
  generalize T.nodes.length = N at *
  go_enter Try.func115, Try.ntmps115
  go_wp2_with fail
  go_loop [1] (fun s => ∃ c : Option Nat, s = .int .i64 (DT.upI c) ∧ Hid (curOk T c) ∧ Hid (r = match c with | none => false | some j => T.within j o)) (fun s => curMeasure T s)
  case atStart => exact ⟨some i, rfl, fun j hj => by cases hj; exact ⟨n, HI.out⟩, HR.out⟩
  case round =>
    obtain ⟨c, rfl, hok, hrr⟩ := hrel
    cases c with
    | none =>
      rw [upI_none]
      go_wp2_with fail
      go_ret
      refine ⟨ret_bool ?_, rfl⟩
      have h1 : r = false := hrr.out
      rw [h1]
      simp
    | some j =>
      rw [upI_some]
      obtain ⟨m, hm⟩ := hok.out j rfl
      have hjl := HL.out j m hm
      obtain ⟨gb, hcell, hrep, _⟩ := HN.out j m hm
      have hcn := hrep.1.cell
      have HS := Lib.hid (DT.WF.within_step HW.out hm o)
      have HM := Lib.hid hm
      have HP := Lib.hid hrep
      clear hm hrep
      by_cases hjo : j = o
      · subst hjo
        have hd : ((j : Int) == (j : Int)) = true := by simp
        have hd2 : ((j : Int) != (j : Int)) = false := by simp
        go_wp2_with fail
        go_ret
        refine ⟨ret_bool ?_, rfl⟩
        have h1 : r = T.within j j := hrr.out
        rw [h1, HS.out]
        simp
      · have hd2 : ((j : Int) != (o : Int)) = true := by simp; omega
        have HJ := Lib.hid hjo
        clear hjo
        obtain ⟨u, hu⟩ : ∃ u, u = m.up := ⟨_, rfl⟩
        rw [← hu] at hcn
        have HU := Lib.hid hu
        clear hu
        go_wp2_with fail
        refine ⟨⟨u, rfl, ?_, ?_⟩, ?_⟩
        · intro p hp
          obtain ⟨q, hq, _⟩ := HW.out.par j m p HM.out (by rw [← HU.out, hp])
          exact ⟨q, hq⟩
        · have h1 : r = T.within j o := hrr.out
          show r = _
          rw [h1, HS.out, ← HU.out]
          have : (j == o) = false := by simp; exact HJ.out
          rw [this]
          cases u <;> simp
        · rw [curMeasure_some]
          cases hu : u with
          | none => rw [curMeasure_none]; omega
          | some p =>
            have := HW.out.depth_up HM.out (by rw [← HU.out, hu])
            rw [upI_some, curMeasure_some]
            omega

set_option maxHeartbeats 400000 in
theorem live_any (h : Rep w tb T nv G) (hW : T.WF) (id : Int) :
    Calls Try.prog 43 #[.pointer (some ⟨tb, 0, none⟩), .int .i64 id] w fun e w' => e = .returned (.bool (T.live id)) ∧ w = w' := by
  have hl := hW.nodes_le
  cases hn : T.get id with
  | none =>
    have e : T.live id = false := by simp [DT.live, DT.has, hn]
    have H := Lib.hid (get_none h hl hn)
    rw [e]
    clear h hn e hW
    go_enter Try.func43, Try.ntmps43
    go_wp2_with ((with_reducible refine H.out.mono ?_); rintro e w' ⟨rfl, rfl⟩)
    go_ret
    exact ⟨rfl, rfl⟩
  | some n =>
    obtain ⟨h0, h1, h2⟩ := DT.get_some hn
    have e : T.live id = T.within id.toNat 0 := by simp [DT.live, DT.has, hn]
    obtain ⟨g, hr, _, H⟩ := get_some h hl hn
    have H := Lib.hid H
    have HT := within_any h hW h1 0 (by omega)
    rw [h2] at HT
    have HT := Lib.hid HT
    rw [e]
    generalize T.within id.toNat 0 = r at *
    clear h hn e hr hW h1 h2
    go_enter Try.func43, Try.ntmps43
    go_wp2_with (first | ((with_reducible refine H.out.mono ?_); rintro e w' ⟨rfl, rfl⟩) | ((refine HT.out.mono ?_); rintro e w' ⟨rfl, rfl⟩))
    go_ret
    exact ⟨rfl, rfl⟩

set_option maxHeartbeats 400000 in
theorem depth_any (h : Rep w tb T nv G) (hW : T.WF) (id : Int) :
    Calls Try.prog 51 #[.pointer (some ⟨tb, 0, none⟩), .int .i64 id] w fun e w' => e = .returned (.int .i64 (T.depth id)) ∧ w = w' := by
  have hl := hW.nodes_le
  cases hn : T.get id with
  | none =>
    have e : T.depth id = -1 := by simp [DT.depth, DT.has, hn]
    have H := Lib.hid (get_none h hl hn)
    rw [e]
    clear h hn e hW
    go_enter Try.func51, Try.ntmps51
    go_wp2_with ((with_reducible refine H.out.mono ?_); rintro e w' ⟨rfl, rfl⟩)
    go_ret
    exact ⟨rfl, rfl⟩
  | some n =>
    obtain ⟨h0, h1, h2⟩ := DT.get_some hn
    obtain ⟨i, rfl⟩ : ∃ i : Nat, id = i := ⟨id.toNat, by omega⟩
    have e : T.depth (i : Int) = (T.depthF DT.fuel i : Int) := by simp [DT.depth, DT.has, hn]
    have h1 : T.at_ i = some n := by simpa using h1
    obtain ⟨g0, _, _, H⟩ := get_some h hl hn
    have H := Lib.hid H
    obtain ⟨g, cap, rfl, hcap, hmax, hnode⟩ := h.nodes_open hW
    have hc := h.tree.cell
    obtain ⟨gi, hgi, hri, _⟩ := hnode i n h1
    have hci := hri.1.cell
    have hil := DT.at_lt h1
    have HN := Lib.hid hnode
    have HW := Lib.hid hW
    have HI := Lib.hid h1
    have hlen : ∀ j m, T.at_ j = some m → j < T.nodes.length := fun j m hj => DT.at_lt hj
    have HL := Lib.hid hlen
    have hb := hW.depth_le h1
    have HS : Hid (T.depthF DT.fuel i = match n.up with | none => 0 | some p => T.depthF DT.fuel p + 1) := by
      cases hu : n.up with
      | none => exact hW.depth_root h1 hu
      | some p => exact hW.depth_up h1 hu
    have HK : Hid (curOk T n.up) := fun p hp => by
      obtain ⟨m, hm, _⟩ := hW.par i n p h1 hp
      exact ⟨m, hm⟩
    rw [e]
    obtain ⟨r, hr⟩ : ∃ r, r = T.depthF DT.fuel i := ⟨_, rfl⟩
    rw [← hr] at hb ⊢
    have HR := Lib.hid hr
    clear h hn e hW hnode h1 hri hlen hr h2
    generalize T.nodes.length = N at *
    generalize n.up = u0 at *
    go_enter Try.func51, Try.ntmps51
    go_wp2_with ((with_reducible refine H.out.mono ?_); rintro e w' ⟨rfl, rfl⟩)
    go_loop [5, 6] (fun d s => ∃ (c : Option Nat) (k : Nat), s = .int .i64 (DT.upI c) ∧ d = .int .i64 (k : Int) ∧ k ≤ 40 ∧ Hid (curOk T c) ∧ Hid (r = match c with | none => k | some j => T.depthF DT.fuel j + 1 + k)) (fun _ s => curMeasure T s)
    case atStart =>
      refine ⟨u0, 0, rfl, rfl, by omega, HK, ?_⟩
      show r = _
      rw [HR.out, HS.out]
    case round =>
      obtain ⟨c, k, rfl, rfl, hk, hok, hrr⟩ := hrel
      cases c with
      | none =>
        rw [upI_none]
        go_wp2_with fail
        go_ret
        have h1 : r = k := hrr.out
        rw [h1]
        exact ⟨rfl, rfl⟩
      | some j =>
        rw [upI_some]
        obtain ⟨m, hm⟩ := hok.out j rfl
        have hjl := HL.out j m hm
        obtain ⟨gb, hcell, hrep, _⟩ := HN.out j m hm
        have hcn := hrep.1.cell
        have HM := Lib.hid hm
        have HP := Lib.hid hrep
        have h1 : r = T.depthF DT.fuel j + 1 + k := hrr.out
        have hk1 : k + 1 ≤ 40 := by omega
        have H1 := Lib.hid h1
        clear hm hrep h1
        obtain ⟨u, hu⟩ : ∃ u, u = m.up := ⟨_, rfl⟩
        rw [← hu] at hcn
        have HU := Lib.hid hu
        clear hu
        go_wp2_with fail
        refine ⟨⟨u, k + 1, rfl, by go_num, hk1, ?_, ?_⟩, ?_⟩
        · intro p hp
          obtain ⟨q, hq, _⟩ := HW.out.par j m p HM.out (by rw [← HU.out, hp])
          exact ⟨q, hq⟩
        · show r = _
          rw [H1.out]
          cases hu : u with
          | none => rw [HW.out.depth_root HM.out (by rw [← HU.out, hu])]; show 0 + 1 + k = k + 1; omega
          | some p => rw [HW.out.depth_up HM.out (by rw [← HU.out, hu])]; show T.depthF DT.fuel p + 1 + 1 + k = T.depthF DT.fuel p + 1 + (k + 1); omega
        · rw [curMeasure_some]
          cases hu : u with
          | none => rw [curMeasure_none]; omega
          | some p =>
            have := HW.out.depth_up HM.out (by rw [← HU.out, hu])
            rw [upI_some, curMeasure_some]
            omega
end
end Go.Proofs.Ytnnjlpkjpbbklaa

-- DomRead5: Height of package dom. Conditions: the tree lies in memory and is sound.
namespace Go.Proofs.Ytnnjlpkjpbbklaa
open Go.RowKit

def hiTo (T : DT) (l : List Nat) : Nat := l.foldl (fun b k => max b (T.heightF DT.fuel k + 1)) 0
theorem hiTo_succ (T : DT) (l : List Nat) (j : Nat) (hj : j < l.length) : hiTo T (l.take (j + 1)) = max (hiTo T (l.take j)) (T.heightF DT.fuel l[j] + 1) := by
  unfold hiTo
  rw [List.take_succ_eq_append_getElem hj, List.foldl_append]
  rfl
theorem hiTo_le (T : DT) (hW : T.WF) {i : Nat} {n : Nd} (hi : T.at_ i = some n) (j : Nat) : hiTo T (n.kids.take j) ≤ 40 := by
  refine DT.foldl_max_le _ (fun k => T.heightF DT.fuel k + 1) 0 40 (by omega) fun k hk => ?_
  obtain ⟨m, hm, _, hd⟩ := hW.kid_depth hi (List.mem_of_mem_take hk)
  have := hW.height_dep hm
  have := hW.dep2
  omega

section
variable {w : World} {tb : Nat} {T : DT} {nv : Value} {G : List (Option NG)}

set_option maxHeartbeats 800000 in
theorem height_at (h : Rep w tb T nv G) (hW : T.WF) : ∀ (f : Nat) (i : Nat) (n : Nd), T.at_ i = some n → 41 ≤ f + T.depthF DT.fuel i →
    Calls Try.prog 65 #[.pointer (some ⟨tb, 0, none⟩), .int .i64 (i : Int)] w fun e w' => e = .returned (.int .i64 (T.heightF DT.fuel i : Int)) ∧ w = w' := by
  intro f
  induction f with
  | zero => intro i n hi hf; have := hW.depth_le hi; omega
  | succ f ih =>
    intro i n hi hf
    have hl := hW.nodes_le
    have hn : T.get (i : Int) = some n := by rw [DT.get_nat]; exact hi
    obtain ⟨g, hr, _, H⟩ := get_some h hl hn
    have H := Lib.hid H
    have hc := hr.1.cell
    have hkl := kids_len hW hi
    have e : T.heightF DT.fuel i = hiTo T n.kids := hW.height_step hi
    rw [e]
    have IH : Hid (∀ k ∈ n.kids, Calls Try.prog 65 #[.pointer (some ⟨tb, 0, none⟩), .int .i64 (k : Int)] w fun e w' => e = .returned (.int .i64 (T.heightF DT.fuel k : Int)) ∧ w = w') := by
      intro k hk
      obtain ⟨m, hm, _, hd⟩ := hW.kid_depth hi hk
      exact ih k m hm (by omega)
    have HLE : Hid (∀ j, hiTo T (n.kids.take j) ≤ 40) := hiTo_le T hW hi
    have HST : Hid (∀ j (hj : j < n.kids.length), hiTo T (n.kids.take (j + 1)) = max (hiTo T (n.kids.take j)) (T.heightF DT.fuel n.kids[j] + 1)) := fun j hj => hiTo_succ T n.kids j hj
    have HHB : Hid (∀ k ∈ n.kids, T.heightF DT.fuel k ≤ 40) := by
      intro k hk
      obtain ⟨m, hm, _, hd⟩ := hW.kid_depth hi hk
      have := hW.height_dep hm
      have := hW.dep2
      omega
    obtain ⟨A, cap, hv, hcap, hmx, hA⟩ := hr.2.2.form
    rw [hv] at hc
    have HC : Hid (∀ j (hj : j < n.kids.length), ∃ a, A = some ⟨a, 0, none⟩ ∧ w.cell? ⟨a, j, none⟩ = some (.int .i64 (n.kids[j] : Int))) := by
      intro j hj
      obtain ⟨ga, cap', hv', _, _, _, hcell⟩ := hr.2.2.open_ (by omega)
      rw [hv] at hv'
      injection hv' with h1 h2 h3
      refine ⟨ga, h1, ?_⟩
      rw [hcell j hj, kidCells_get _ _ hj]
    clear h hn e hr hv ih hA
    have HI := Lib.hid hi
    have HW := Lib.hid hW
    clear hi hW
    obtain ⟨m, hm⟩ : ∃ m, m = n.kids.length := ⟨_, rfl⟩
    rw [← hm] at hkl hc hcap
    have HM := Lib.hid hm
    have hml : m ≤ 2000 := by omega
    clear hm
    go_enter Try.func65, Try.ntmps65
    go_wp2_with ((with_reducible refine H.out.mono ?_); rintro e w' ⟨rfl, rfl⟩)
    go_loop [6, 8, 19] (fun h _ s => ∃ j : Nat, j ≤ m ∧ s = .int .i64 (j : Int) ∧ h = .int .i64 (hiTo T (n.kids.take j) : Int)) (fun _ _ s => m - (intOf s).toNat)
    case atStart => exact ⟨0, Nat.zero_le _, rfl, rfl⟩
    case round =>
      obtain ⟨j, hj, rfl, rfl⟩ := hrel
      have hle := HLE.out j
      by_cases hlt : j < m
      · have hjl : j < n.kids.length := by have := HM.out; omega
        obtain ⟨a, rfl, hcell⟩ := HC.out j hjl
        have hmem : n.kids[j] ∈ n.kids := List.getElem_mem hjl
        have IHk := Lib.hid (IH.out _ hmem)
        have hhb := HHB.out _ hmem
        have hst := HST.out j hjl
        generalize n.kids[j] = k at *
        have HST' := Lib.hid hst
        clear hst hmem hjl
        go_wp2_with ((refine IHk.out.mono ?_); rintro e w' ⟨rfl, rfl⟩)
        refine ⟨⟨j + 1, by omega, by go_num, ?_⟩, by simp [intOf]; omega⟩
        rw [HST'.out]
        congr 1
        omega
      · have hjm : j = m := by omega
        subst hjm
        go_wp2_with fail
        go_ret
        refine ⟨?_, rfl⟩
        rw [List.take_of_length_le (by have := HM.out; omega)]
        rfl

theorem height_any (h : Rep w tb T nv G) (hW : T.WF) (id : Int) :
    Calls Try.prog 65 #[.pointer (some ⟨tb, 0, none⟩), .int .i64 id] w fun e w' => e = .returned (.int .i64 (T.height id)) ∧ w = w' := by
  have hl := hW.nodes_le
  cases hn : T.get id with
  | none =>
    have e : T.height id = -1 := by simp [DT.height, DT.has, hn]
    have H := Lib.hid (get_none h hl hn)
    rw [e]
    clear h hn e hW
    go_enter Try.func65, Try.ntmps65
    go_wp2_with ((with_reducible refine H.out.mono ?_); rintro e w' ⟨rfl, rfl⟩)
    go_ret
    exact ⟨rfl, rfl⟩
  | some n =>
    obtain ⟨h0, h1, h2⟩ := DT.get_some hn
    have e : T.height id = (T.heightF DT.fuel id.toNat : Int) := by simp [DT.height, DT.has, hn]
    rw [e]
    have := height_at h hW 41 id.toNat n h1 (by omega)
    rwa [h2] at this
end
end Go.Proofs.Ytnnjlpkjpbbklaa
