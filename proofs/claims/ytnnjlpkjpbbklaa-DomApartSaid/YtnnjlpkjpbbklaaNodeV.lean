/-
  A plain tree of package api as it lies in memory: its cells, level by level; what stays of it. Conditions: none.
-/
import Derived.Test.YtnnjlpkjpbbklaaDomRem
import Derived.Test.YtnnjlpkjpbbklaaDomGraft
set_option linter.unusedVariables false
set_option linter.unusedSimpArgs false
namespace Go.Proofs.Ytnnjlpkjpbbklaa
open Go.RowKit

/-- A slice value that reads as n elements, the cells xs, in a block of R; one without an element may point anywhere. -/
def RowQ (w : World) (R : Nat → Prop) (size : Nat) (v : Value) (n : Nat) (xs : List Value) : Prop :=
  xs.length = n * size ∧ ((v = .slice none 0 0 ∧ n = 0) ∨ (∃ A cap, v = .slice (some A) 0 cap ∧ n = 0 ∧ cap ≤ maxLen) ∨ ∃ b off cap, v = .slice (some ⟨b, off, none⟩) n cap ∧ n ≤ cap ∧ cap ≤ maxLen ∧ R b ∧ ∀ j u, xs[j]? = some u → w.cell? ⟨b, off + j, none⟩ = some u)

section
variable {w w' : World} {R R' : Nat → Prop} {size : Nat} {v : Value} {n : Nat} {xs : List Value}
theorem RowQ.reads (h : RowQ w R size v n xs) : RowR w size v n xs := by
  refine ⟨h.1, ?_⟩
  rcases h.2 with hn | ⟨A, cap, rfl, rfl, _⟩ | ⟨b, off, cap, rfl, _, _, _, hc⟩
  · exact .inl hn
  · refine .inr ⟨A, cap, rfl, fun j u hu => ?_⟩
    have h0 := h.1
    rw [Nat.zero_mul] at h0
    rw [List.length_eq_zero_iff.1 h0] at hu
    cases hu
  · refine .inr ⟨_, cap, rfl, fun j u hu => ?_⟩
    have : (⟨b, off, none⟩ : Addr).add j = ⟨b, off + j, none⟩ := by
      unfold Addr.add
      by_cases hj : j = 0 <;> simp [hj]
    rw [this]; exact hc j u hu
theorem RowQ.keep (h : RowQ w R size v n xs) (hk : ∀ b, R b → w'.heap[b]? = w.heap[b]?) : RowQ w' R size v n xs := by
  refine ⟨h.1, ?_⟩
  rcases h.2 with hn | hA | ⟨b, off, cap, rfl, h1, h2, hR, hc⟩
  · exact .inl hn
  · exact .inr (.inl hA)
  · exact .inr (.inr ⟨b, off, cap, rfl, h1, h2, hR, fun j u hu => (World.cell?_of_block (hk b hR)).trans (hc j u hu)⟩)
theorem RowQ.mono (h : RowQ w R size v n xs) (hk : ∀ b, R b → R' b) : RowQ w R' size v n xs := by
  refine ⟨h.1, ?_⟩
  rcases h.2 with hn | hA | ⟨b, off, cap, rfl, h1, h2, hR, hc⟩
  · exact .inl hn
  · exact .inr (.inl hA)
  · exact .inr (.inr ⟨b, off, cap, rfl, h1, h2, hk b hR, hc⟩)
theorem RowQ.nil (w : World) (R : Nat → Prop) (size : Nat) : RowQ w R size (.slice none 0 0) 0 [] := ⟨by simp, .inl ⟨rfl, rfl⟩⟩
theorem RowQ.form (h : RowQ w R size v n xs) : ∃ A cap, v = .slice A n cap ∧ n ≤ cap ∧ cap ≤ maxLen ∧ (A = none → n = 0) := by
  rcases h.2 with ⟨rfl, rfl⟩ | ⟨A, cap, rfl, rfl, hm⟩ | ⟨b, off, cap, rfl, h1, h2, hR, hc⟩
  · exact ⟨none, 0, rfl, Nat.le_refl _, Nat.zero_le _, fun _ => rfl⟩
  · exact ⟨some A, cap, rfl, Nat.zero_le _, hm, fun e => by cases e⟩
  · exact ⟨_, cap, rfl, h1, h2, fun e => by cases e⟩
/-- Its cells, one by one, where there is one. -/
theorem RowQ.open_ (h : RowQ w R size v n xs) (hn : 0 < n) : ∃ b off cap, v = .slice (some ⟨b, off, none⟩) n cap ∧ n ≤ cap ∧ cap ≤ maxLen ∧ R b ∧ ∀ j u, xs[j]? = some u → w.cell? ⟨b, off + j, none⟩ = some u := by
  rcases h.2 with ⟨_, h0⟩ | ⟨_, _, _, h0, _⟩ | h1
  · omega
  · omega
  · exact h1
theorem own_rowQ {base : Nat} {e : TypeId} (h : w.ownsRow base e size v n xs) (hsz : 0 < size) : RowQ w (fun b => base ≤ b ∧ b < w.heap.size) size v n xs := by
  refine ⟨h.1, ?_⟩
  rcases h.2 with hn | ⟨g, cap, cur, rfl, hb, hg, hc, hm, hs, ht⟩
  · exact .inl hn
  · refine .inr (.inr ⟨g, 0, cap, rfl, hc, hm, ⟨hb, (Array.getElem?_eq_some_iff.1 hg).1⟩, fun j u hu => ?_⟩)
    have hA : At w g e cur := hg
    rw [Nat.zero_add, hA.cell j, ← Array.getElem?_toList]
    rw [← ht, List.getElem?_take] at hu
    split at hu
    · exact hu
    · cases hu
end

/-- A plain tree, and where it lies: the slices of each node. -/
inductive VN where
  | mk (tag : Int) (attrs : List (Bytes × Bytes)) (text : Bytes) (av kv : Value) (kids : List VN)
namespace VN
def cells : VN → List Value | .mk t _ x av kv _ => [I t, av, .string x, kv]
def agg : VN → Value | .mk t _ x av kv _ => .agg #[I t, av, .string x, kv]
def kids : VN → List VN | .mk _ _ _ _ _ ks => ks
mutual
def node : VN → PNode
  | .mk t al x _ _ ks => .mk t al x (nodeL ks)
def nodeL : List VN → List PNode
  | [] => []
  | k :: ks => node k :: nodeL ks
end
theorem nodeL_map (ks : List VN) : nodeL ks = ks.map node := by
  induction ks with
  | nil => rfl
  | cons k ks ih => simp only [nodeL, List.map_cons, ih]
theorem ind {P : VN → Prop} (h : ∀ t a x av kv ks, (∀ k ∈ ks, P k) → P (.mk t a x av kv ks)) : ∀ n, P n := fun n =>
  VN.rec (motive_1 := P) (motive_2 := fun ks => ∀ k ∈ ks, P k) (fun t a x av kv ks ih => h t a x av kv ks ih) (fun _ hk => by cases hk) (fun k ks h1 h2 x hx => by
    rcases List.mem_cons.1 hx with rfl | hx
    · exact h1
    · exact h2 x hx) n
end VN

def kidsCells (ks : List VN) : List Value := ks.flatMap VN.cells
theorem VN.cells_length (k : VN) : k.cells.length = 4 := by cases k; rfl
theorem kidsCells_length (ks : List VN) : (kidsCells ks).length = ks.length * 4 := by
  induction ks with
  | nil => rfl
  | cons k ks ih => simp only [kidsCells, List.flatMap_cons, List.length_append, List.length_cons, VN.cells_length] at *; omega
theorem kidsCells_get : ∀ (ks : List VN) (i : Nat) (hi : i < ks.length) (c : Nat), c < 4 → (kidsCells ks)[i * 4 + c]? = (ks[i]).cells[c]? := by
  intro ks
  induction ks with
  | nil => intro i hi; simp at hi
  | cons k ks ih =>
    intro i hi c hc
    have hk := VN.cells_length k
    show (k.cells ++ kidsCells ks)[i * 4 + c]? = _
    cases i with
    | zero => rw [List.getElem?_append_left (by omega)]; simp
    | succ i =>
      rw [List.getElem?_append_right (by omega)]
      rw [show (i + 1) * 4 + c - k.cells.length = i * 4 + c by omega, ih i (by simpa using hi) c hc]
      simp
theorem kidsCells_append (l : List VN) (k : VN) : kidsCells (l ++ [k]) = kidsCells l ++ k.cells := by simp [kidsCells]

/-- It lies there, in blocks of R. -/
inductive PV (w : World) (R : Nat → Prop) : VN → Prop
  | mk {t : Int} {al : List (Bytes × Bytes)} {x : Bytes} {av kv : Value} {ks : List VN} (ha : RowQ w R 2 av al.length (attrCells al)) (hk : RowQ w R 4 kv ks.length (kidsCells ks)) (h : ∀ k ∈ ks, PV w R k) : PV w R (.mk t al x av kv ks)

section
variable {w w' : World} {R R' : Nat → Prop}
theorem PV.keep {n : VN} (h : PV w R n) (hk : ∀ b, R b → w'.heap[b]? = w.heap[b]?) : PV w' R n := by
  induction h with
  | mk ha hk' _ ih => exact .mk (ha.keep hk) (hk'.keep hk) ih
theorem PV.mono {n : VN} (h : PV w R n) (hk : ∀ b, R b → R' b) : PV w R' n := by
  induction h with
  | mk ha hk' _ ih => exact .mk (ha.mono hk) (hk'.mono hk) ih
theorem PV.keepB {n : VN} {B : Nat} (h : PV w R n) (hb : Below B w w') (hR : ∀ b, R b → b < B) : PV w' R n := h.keep fun b hb1 => hb.block b (hR b hb1)
theorem PV.only {n : VN} {S : Nat → Prop} (h : PV w R n) (ho : Only S w w') (hR : ∀ b, R b → b < w.heap.size ∧ ¬ S b) : PV w' R n := h.keep fun b hb1 => ho.block b (hR b hb1).1 (hR b hb1).2
end
/-- What is new since base. -/
def Since (base : Nat) (w : World) (b : Nat) : Prop := base ≤ b ∧ b < w.heap.size
end Go.Proofs.Ytnnjlpkjpbbklaa
