/-
  Plain trees in memory; package dom: Plain and Copy, walked. Conditions: the tree lies in memory and is sound.
-/
import Derived.Test.YtnnjlpkjpbbklaaMemC
import Derived.Test.YtnnjlpkjpbbklaaPureDom
import Derived.Deep.AppendLies
import Derived.Deep.RegionLaw
-- NodeV: A plain tree of package api as it lies in memory: its cells, level by level; what stays of it. Conditions: none.
set_option linter.unusedVariables false
set_option linter.unusedSimpArgs false
namespace Go.Proofs.Ytnnjlpkjpbbklaa
open Go.RowKit

/-- A slice value that reads as n elements, the cells xs, in a block of R; one without an element may point anywhere. -/
def RowQ (w : World) (R : Nat → Prop) (size : Nat) (v : Value) (n : Nat) (xs : List Value) : Prop :=
  xs.length = n * size ∧ ((v = .slice none 0 0 ∧ n = 0) ∨ (∃ A cap, v = .slice (some A) 0 cap ∧ n = 0 ∧ cap ≤ maxLen) ∨ ∃ b off cap, v = .slice (some ⟨b, off, none⟩) n cap ∧ n ≤ cap ∧ cap ≤ maxLen ∧ R b ∧ ∀ j u, xs[j]? = some u → w.cell? ⟨b, off + j, none⟩ = some u)

section
variable {w w' : World} {R R' : Nat → Prop} {size : Nat} {v : Value} {n : Nat} {xs : List Value}
theorem RowQ.reads (h : RowQ w R size v n xs) : RowR w size v n xs := by
  refine ⟨h.1, ?_⟩
  rcases h.2 with hn | ⟨A, cap, rfl, rfl, _⟩ | ⟨b, off, cap, rfl, _, _, _, hc⟩
  · exact .inl hn
  · refine .inr ⟨A, cap, rfl, fun j u hu => ?_⟩
    have h0 := h.1
    rw [Nat.zero_mul] at h0
    rw [List.length_eq_zero_iff.1 h0] at hu
    cases hu
  · refine .inr ⟨_, cap, rfl, fun j u hu => ?_⟩
    have : (⟨b, off, none⟩ : Addr).add j = ⟨b, off + j, none⟩ := by
      unfold Addr.add
      by_cases hj : j = 0 <;> simp [hj]
    rw [this]; exact hc j u hu
theorem RowQ.keep (h : RowQ w R size v n xs) (hk : ∀ b, R b → w'.heap[b]? = w.heap[b]?) : RowQ w' R size v n xs := by
  refine ⟨h.1, ?_⟩
  rcases h.2 with hn | hA | ⟨b, off, cap, rfl, h1, h2, hR, hc⟩
  · exact .inl hn
  · exact .inr (.inl hA)
  · exact .inr (.inr ⟨b, off, cap, rfl, h1, h2, hR, fun j u hu => (World.cell?_of_block (hk b hR)).trans (hc j u hu)⟩)
theorem RowQ.mono (h : RowQ w R size v n xs) (hk : ∀ b, R b → R' b) : RowQ w R' size v n xs := by
  refine ⟨h.1, ?_⟩
  rcases h.2 with hn | hA | ⟨b, off, cap, rfl, h1, h2, hR, hc⟩
  · exact .inl hn
  · exact .inr (.inl hA)
  · exact .inr (.inr ⟨b, off, cap, rfl, h1, h2, hk b hR, hc⟩)
theorem RowQ.nil (w : World) (R : Nat → Prop) (size : Nat) : RowQ w R size (.slice none 0 0) 0 [] := ⟨by simp, .inl ⟨rfl, rfl⟩⟩
theorem RowQ.form (h : RowQ w R size v n xs) : ∃ A cap, v = .slice A n cap ∧ n ≤ cap ∧ cap ≤ maxLen ∧ (A = none → n = 0) := by
  rcases h.2 with ⟨rfl, rfl⟩ | ⟨A, cap, rfl, rfl, hm⟩ | ⟨b, off, cap, rfl, h1, h2, hR, hc⟩
  · exact ⟨none, 0, rfl, Nat.le_refl _, Nat.zero_le _, fun _ => rfl⟩
  · exact ⟨some A, cap, rfl, Nat.zero_le _, hm, fun e => by cases e⟩
  · exact ⟨_, cap, rfl, h1, h2, fun e => by cases e⟩
/-- Its cells, one by one, where there is one. -/
theorem RowQ.open_ (h : RowQ w R size v n xs) (hn : 0 < n) : ∃ b off cap, v = .slice (some ⟨b, off, none⟩) n cap ∧ n ≤ cap ∧ cap ≤ maxLen ∧ R b ∧ ∀ j u, xs[j]? = some u → w.cell? ⟨b, off + j, none⟩ = some u := by
  rcases h.2 with ⟨_, h0⟩ | ⟨_, _, _, h0, _⟩ | h1
  · omega
  · omega
  · exact h1
theorem own_rowQ {base : Nat} {e : TypeId} (h : w.ownsRow base e size v n xs) (hsz : 0 < size) : RowQ w (fun b => base ≤ b ∧ b < w.heap.size) size v n xs := by
  refine ⟨h.1, ?_⟩
  rcases h.2 with hn | ⟨g, cap, cur, rfl, hb, hg, hc, hm, hs, ht⟩
  · exact .inl hn
  · refine .inr (.inr ⟨g, 0, cap, rfl, hc, hm, ⟨hb, (Array.getElem?_eq_some_iff.1 hg).1⟩, fun j u hu => ?_⟩)
    have hA : At w g e cur := hg
    rw [Nat.zero_add, hA.cell j, ← Array.getElem?_toList]
    rw [← ht, List.getElem?_take] at hu
    split at hu
    · exact hu
    · cases hu
end

/-- A plain tree, and where it lies: the slices of each node. -/
inductive VN where
  | mk (tag : Int) (attrs : List (Bytes × Bytes)) (text : Bytes) (av kv : Value) (kids : List VN)
namespace VN
def cells : VN → List Value | .mk t _ x av kv _ => [I t, av, .string x, kv]
def agg : VN → Value | .mk t _ x av kv _ => .agg #[I t, av, .string x, kv]
def kids : VN → List VN | .mk _ _ _ _ _ ks => ks
mutual
def node : VN → PNode
  | .mk t al x _ _ ks => .mk t al x (nodeL ks)
def nodeL : List VN → List PNode
  | [] => []
  | k :: ks => node k :: nodeL ks
end
theorem nodeL_map (ks : List VN) : nodeL ks = ks.map node := by
  induction ks with
  | nil => rfl
  | cons k ks ih => simp only [nodeL, List.map_cons, ih]
theorem ind {P : VN → Prop} (h : ∀ t a x av kv ks, (∀ k ∈ ks, P k) → P (.mk t a x av kv ks)) : ∀ n, P n := fun n =>
  VN.rec (motive_1 := P) (motive_2 := fun ks => ∀ k ∈ ks, P k) (fun t a x av kv ks ih => h t a x av kv ks ih) (fun _ hk => by cases hk) (fun k ks h1 h2 x hx => by
    rcases List.mem_cons.1 hx with rfl | hx
    · exact h1
    · exact h2 x hx) n
end VN

def kidsCells (ks : List VN) : List Value := ks.flatMap VN.cells
theorem VN.cells_length (k : VN) : k.cells.length = 4 := by cases k; rfl
theorem kidsCells_length (ks : List VN) : (kidsCells ks).length = ks.length * 4 := by
  induction ks with
  | nil => rfl
  | cons k ks ih => simp only [kidsCells, List.flatMap_cons, List.length_append, List.length_cons, VN.cells_length] at *; omega
theorem kidsCells_get : ∀ (ks : List VN) (i : Nat) (hi : i < ks.length) (c : Nat), c < 4 → (kidsCells ks)[i * 4 + c]? = (ks[i]).cells[c]? := by
  intro ks
  induction ks with
  | nil => intro i hi; simp at hi
  | cons k ks ih =>
    intro i hi c hc
    have hk := VN.cells_length k
    show (k.cells ++ kidsCells ks)[i * 4 + c]? = _
    cases i with
    | zero => rw [List.getElem?_append_left (by omega)]; simp
    | succ i =>
      rw [List.getElem?_append_right (by omega)]
      rw [show (i + 1) * 4 + c - k.cells.length = i * 4 + c by omega, ih i (by simpa using hi) c hc]
      simp
theorem kidsCells_append (l : List VN) (k : VN) : kidsCells (l ++ [k]) = kidsCells l ++ k.cells := by simp [kidsCells]

/-- It lies there, in blocks of R. -/
inductive PV (w : World) (R : Nat → Prop) : VN → Prop
  | mk {t : Int} {al : List (Bytes × Bytes)} {x : Bytes} {av kv : Value} {ks : List VN} (ha : RowQ w R 2 av al.length (attrCells al)) (hk : RowQ w R 4 kv ks.length (kidsCells ks)) (h : ∀ k ∈ ks, PV w R k) : PV w R (.mk t al x av kv ks)

section
variable {w w' : World} {R R' : Nat → Prop}
theorem PV.keep {n : VN} (h : PV w R n) (hk : ∀ b, R b → w'.heap[b]? = w.heap[b]?) : PV w' R n := by
  induction h with
  | mk ha hk' _ ih => exact .mk (ha.keep hk) (hk'.keep hk) ih
theorem PV.mono {n : VN} (h : PV w R n) (hk : ∀ b, R b → R' b) : PV w R' n := by
  induction h with
  | mk ha hk' _ ih => exact .mk (ha.mono hk) (hk'.mono hk) ih
theorem PV.keepB {n : VN} {B : Nat} (h : PV w R n) (hb : Below B w w') (hR : ∀ b, R b → b < B) : PV w' R n := h.keep fun b hb1 => hb.block b (hR b hb1)
theorem PV.only {n : VN} {S : Nat → Prop} (h : PV w R n) (ho : Only S w w') (hR : ∀ b, R b → b < w.heap.size ∧ ¬ S b) : PV w' R n := h.keep fun b hb1 => ho.block b (hR b hb1).1 (hR b hb1).2
end
/-- What is new since base. -/
def Since (base : Nat) (w : World) (b : Nat) : Prop := base ≤ b ∧ b < w.heap.size
end Go.Proofs.Ytnnjlpkjpbbklaa

-- NodeSt: A row of plain trees that grows by one. Conditions: none.
namespace Go.Proofs.Ytnnjlpkjpbbklaa
open Go.RowKit

theorem infoNode : (Try.prog.info? 41).map (fun i => (i.zero, i.size, i.bytes)) = some (some (.agg #[.int .i64 0, .slice none 0 0, .string ByteArray.empty, .slice none 0 0]), 4, 72) := by kernel_rfl

/-- The call's own row of plain trees kv, apart from the blocks of X. -/
structure NSt (base : Nat) (X : Nat → Prop) (Vs : List VN) (kv : Value) (w : World) : Prop where
  row : w.ownsRow base 41 4 kv Vs.length (kidsCells Vs)
  apart : ∀ b, kv.ownBlock = some b → ¬ X b
  kids : ∀ V ∈ Vs, PV w (fun b => base ≤ b ∧ b < w.heap.size ∧ ¬ X b ∧ kv.ownBlock ≠ some b) V

section
variable {base : Nat} {X : Nat → Prop} {Vs : List VN} {kv : Value} {w w' w1 w2 w3 w4 : World}
theorem NSt.nil (base : Nat) (X : Nat → Prop) (w : World) : NSt base X [] (.slice none 0 0) w := ⟨World.ownsRow_nil _ _ _ _, fun b h => (by cases h), fun V h => (by cases h)⟩

theorem NSt.keep (h : NSt base X Vs kv w) (hz : w.heap.size ≤ w'.heap.size) (hk : ∀ b, b < w.heap.size → ¬ X b → w'.heap[b]? = w.heap[b]?) : NSt base X Vs kv w' := by
  refine ⟨?_, h.apart, fun V hV => ?_⟩
  · obtain ⟨h1, h2⟩ := h.row
    refine ⟨h1, ?_⟩
    rcases h2 with hn | ⟨g, cap, cur, rfl, hb, hg, r⟩
    · exact .inl hn
    · exact .inr ⟨g, cap, cur, rfl, hb, by rw [hk g (Array.getElem?_eq_some_iff.1 hg).1 (h.apart g rfl)]; exact hg, r⟩
  · exact ((h.kids V hV).keep fun b hb => hk b hb.2.1 hb.2.2.1).mono fun b hb => ⟨hb.1, by omega, hb.2.2⟩

theorem NSt.step (h : NSt base X Vs kv w) (hX : ∀ b, X b → b < w.heap.size) (hbase : base ≤ w.heap.size) (hb : Below w.heap.size w w1) {V : VN} (hV : PV w1 (Since w.heap.size w1) V)
    (hb2 : Below w1.heap.size w1 w2) {g cap : Nat} (hown : w3.ownsRow base 41 4 (.slice (some ⟨g, 0, none⟩) (Vs.length + 1) cap) (Vs.length + 1) (kidsCells Vs ++ V.cells)) (hg : w2.grownBy w3 kv.ownBlock)
    (hlie : kv.ownBlock = some g ∨ g = w2.heap.size) (hz4 : w4.heap.size = w3.heap.size) (h4 : ∀ b, ¬ X b → w4.heap[b]? = w3.heap[b]?) : NSt base X (Vs ++ [V]) (.slice (some ⟨g, 0, none⟩) (Vs.length + 1) cap) w4 := by
  have hz := hb.size
  have hz2 := hb2.size
  have hz3 := hg.size
  have hgX : ¬ X g := by
    rcases hlie with e | e
    · exact h.apart g e
    · intro hx; have := hX g hx; omega
  have hkvl : ∀ b, kv.ownBlock = some b → b < w.heap.size := fun b hb1 => (own_ge h.row b hb1).2
  have hgne : ∀ b, b < w2.heap.size → kv.ownBlock ≠ some b → g ≠ b := by
    intro b hb1 hne e
    rcases hlie with e1 | e1
    · exact hne (e ▸ e1)
    · omega
  refine ⟨?_, ?_, ?_⟩
  · rw [List.length_append, List.length_singleton, kidsCells_append]
    obtain ⟨h1, h2⟩ := hown
    refine ⟨h1, ?_⟩
    rcases h2 with hn | ⟨g', cap', cur, hv, hb', hg', r⟩
    · exact .inl hn
    · cases hv
      exact .inr ⟨g, cap, cur, rfl, hb', by rw [h4 g hgX]; exact hg', r⟩
  · intro b hb1
    simp [Value.ownBlock] at hb1
    subst hb1
    exact hgX
  · intro V' hV'
    rcases List.mem_append.1 hV' with h1 | h1
    · refine ((h.kids V' h1).keep fun b hb1 => ?_).mono fun b hb1 => ⟨hb1.1, by omega, hb1.2.2.1, ?_⟩
      · rw [h4 b hb1.2.2.1, hg.block b (by omega) (fun e => hb1.2.2.2 e.symm), hb2.block b (by omega), hb.block b hb1.2.1]
      · simp only [Value.ownBlock]
        exact fun e => hgne b (by omega) hb1.2.2.2 (Option.some.inj e)
    · have e : V' = V := by simpa using h1
      subst e
      refine (hV.keep fun b hb1 => ?_).mono fun b hb1 => ⟨by have := hb1.1; omega, by have := hb1.2; omega, fun hx => by have := hX b hx; have := hb1.1; omega, ?_⟩
      · have h1 := hb1.1
        have h2 := hb1.2
        rw [h4 b (fun hx => by have := hX b hx; omega), hg.block b (by omega) (fun e => by have := hkvl b e.symm; omega), hb2.block b h2]
      · have h1 := hb1.1
        have h2 := hb1.2
        simp only [Value.ownBlock]
        exact fun e => hgne b (by omega) (fun e' => by have := hkvl b e'; omega) (Option.some.inj e)

/-- The finished row, as a plain tree's kids. -/
theorem NSt.rowQ (h : NSt base X Vs kv w) : RowQ w (fun b => base ≤ b ∧ b < w.heap.size) 4 kv Vs.length (kidsCells Vs) := own_rowQ h.row (by omega)
end
end Go.Proofs.Ytnnjlpkjpbbklaa

-- DomPlain: Plain of package dom. Conditions: the tree lies in memory and is sound; no node has more than 200 attributes.
namespace Go.Proofs.Ytnnjlpkjpbbklaa
open Go.RowKit

/-- No node has very many attributes. -/
def DT.AB (T : DT) : Prop := ∀ i n, T.at_ i = some n → n.attrs.length ≤ 200

def PlainRet (n : PNode) (w : World) (e : Ending) (w' : World) : Prop := ∃ V : VN, e = .returned V.agg ∧ V.node = n ∧ PV w' (Since w.heap.size w') V ∧ Below w.heap.size w w'

theorem cell3_of {w' : World} {b : Nat} {t : TypeId} {c0 c1 c2 c3 : Value} (h : At w' b t #[c0, c1, c2, c3]) : w'.cell? ⟨b, 3, none⟩ = some c3 := h.cell 3

theorem VN.one {w : World} {R : Nat → Prop} {V : VN} (h : PV w R V) : ∀ u ∈ V.cells, u.oneCell' = true := by
  cases h with
  | mk ha hk _ =>
    obtain ⟨A, c, rfl, _⟩ := ha.form
    obtain ⟨A', c', rfl, _⟩ := hk.form
    intro u hu
    simp only [VN.cells, List.mem_cons, List.not_mem_nil, or_false] at hu
    rcases hu with rfl | rfl | rfl | rfl <;> rfl

theorem VN.forms {w : World} {R : Nat → Prop} {t : Int} {al : List (Bytes × Bytes)} {x : Bytes} {av kv : Value} {ks : List VN} (h : PV w R (.mk t al x av kv ks)) : ∃ a5 n5 c5 a6 n6 c6, av = .slice a5 n5 c5 ∧ kv = .slice a6 n6 c6 := by
  cases h with
  | mk ha hk _ =>
    obtain ⟨A, c, rfl, _⟩ := ha.form
    obtain ⟨A', c', rfl, _⟩ := hk.form
    exact ⟨_, _, _, _, _, _, rfl, rfl⟩

/-- Where the loop of Plain stands. -/
structure PlSt (f : Nat → PNode) (W0 : World) (P : Nat) (n : Nd) (al : Value) (k : Nat) (Vs : List VN) (A2 : Option Addr) (c2 : Nat) (wr : World) : Prop where
  len : Vs.length = k
  told : Vs.map VN.node = (n.kids.take k).map f
  out : At wr P 41 #[I n.tag, al, .string n.text, .slice A2 k c2]
  res : At wr W0.heap.size 41 #[I 0, .slice none 0 0, .string ⟨#[]⟩, .slice none 0 0]
  attrs : wr.ownsRow W0.heap.size 55 2 al n.attrs.length (attrCells n.attrs)
  row : NSt W0.heap.size (fun b => b = P ∨ b = W0.heap.size ∨ al.ownBlock = some b) Vs (.slice A2 k c2) wr
  below : Below W0.heap.size W0 wr
  lt : W0.heap.size < P
  ne : ∀ b, al.ownBlock = some b → b ≠ P ∧ b ≠ W0.heap.size

theorem own_same {w w' : World} {base : Nat} {e : TypeId} {size : Nat} {v : Value} {n : Nat} {xs : List Value} (h : w.ownsRow base e size v n xs) (hs : ∀ b, v.ownBlock = some b → w'.heap[b]? = w.heap[b]?) : w'.ownsRow base e size v n xs := by
  obtain ⟨h1, h2⟩ := h
  refine ⟨h1, ?_⟩
  rcases h2 with hn | ⟨g, cap, cur, rfl, hb, hg, r⟩
  · exact .inl hn
  · exact .inr ⟨g, cap, cur, rfl, hb, by rw [hs g rfl]; exact hg, r⟩

theorem PlSt.step {f : Nat → PNode} {W0 : World} {P : Nat} {n : Nd} {al : Value} {k : Nat} {Vs : List VN} {A2 : Option Addr} {c2 : Nat} {wr w2 w3 : World} (h : PlSt f W0 P n al k Vs A2 c2 wr) {kk : Nat} (hk : n.kids[k]? = some kk) {V : VN}
    (hV : V.node = f kk) (hP : PV w2 (Since wr.heap.size w2) V) (hb : Below wr.heap.size wr w2) {o : Obj} {g cap : Nat} (hown : w3.ownsRow W0.heap.size 41 4 (.slice (some ⟨g, 0, none⟩) (k + 1) cap) (k + 1) (kidsCells Vs ++ V.cells))
    (hg : (w2.alloc o).grownBy w3 (Value.slice A2 k c2).ownBlock) (hlie : (Value.slice A2 k c2).ownBlock = some g ∨ g = w2.heap.size + 1) :
    PlSt f W0 P n al (k + 1) (Vs ++ [V]) (some ⟨g, 0, none⟩) cap (w3.setCell ⟨P, 3, none⟩ (.slice (some ⟨g, 0, none⟩) (k + 1) cap)) := by
  have hPl := h.out.lt
  have hz := hb.size
  have hz3 := hg.size
  rw [World.size_alloc] at hz3
  have hkl := (List.getElem?_eq_some_iff.1 hk).1
  have hbz := h.below.size
  have hrl := h.res.lt
  have hal := own_ge h.attrs
  have hX : ∀ b, (b = P ∨ b = W0.heap.size ∨ al.ownBlock = some b) → b < wr.heap.size := by
    rintro b (rfl | rfl | e)
    · exact hPl
    · exact hrl
    · exact (hal b e).2
  have hrow : ∀ b, (b = P ∨ b = W0.heap.size ∨ al.ownBlock = some b) → (Value.slice A2 k c2).ownBlock ≠ some b := fun b hb1 e => h.row.apart b e hb1
  have hblk : ∀ b, b < wr.heap.size → (Value.slice A2 k c2).ownBlock ≠ some b → w3.heap[b]? = wr.heap[b]? := by
    intro b hb1 hne
    rw [hg.block b (by rw [World.size_alloc]; omega) (fun e => hne e.symm), Below.heap_alloc _ _ _ (by omega)]
    exact hb.block b hb1
  refine ⟨by rw [List.length_append, h.len]; rfl, ?_, ?_, ?_, ?_, ?_, ?_, h.lt, h.ne⟩
  · rw [List.map_append, h.told, List.take_add_one, hk, List.map_append]
    simp [hV]
  · exact At.set' (cs := #[I n.tag, al, .string n.text, .slice A2 k c2]) ((hblk P hPl (hrow P (.inl rfl))).trans h.out) rfl
  · have h3 : At w3 W0.heap.size 41 #[I 0, .slice none 0 0, .string ⟨#[]⟩, .slice none 0 0] := (hblk W0.heap.size hrl (hrow _ (.inr (.inl rfl)))).trans h.res
    exact h3.far (p := ⟨P, 3, none⟩) (by have := h.lt; show _ ≠ P; omega) _
  · refine own_same h.attrs fun b hb1 => ?_
    rw [Below.heap_setCell _ _ _ _ (h.ne b hb1).1]
    exact hblk b (hal b hb1).2 (hrow b (.inr (.inr hb1)))
  · have h1 := h.row.step (w1 := w2) (w2 := w2.alloc o) (w3 := w3) (w4 := w3.setCell ⟨P, 3, none⟩ (.slice (some ⟨g, 0, none⟩) (k + 1) cap)) hX hbz hb hP ((Below.refl _ _).alloc (Nat.le_refl _) _) (g := g) (cap := cap) (by rw [h.len]; exact hown) hg (by rw [World.size_alloc]; exact hlie) (World.size_setCell _ _ _) (fun b hb1 => Below.heap_setCell _ _ _ _ (fun e => hb1 (.inl e)))
    rw [h.len] at h1
    exact h1
  · refine Below.setCell ?_ (by have := h.lt; show _ ≤ P; omega) _
    refine ⟨hg.os.trans (hb.os.trans h.below.os), hg.tape.trans (hb.tape.trans h.below.tape), hg.output.trans (hb.output.trans h.below.output), by omega, fun b hb1 => ?_⟩
    rw [hblk b (by omega) (fun e => by have := (own_ge h.row.row b e).1; omega)]
    exact h.below.block b hb1

theorem PlSt.done {f : Nat → PNode} {W0 : World} {P : Nat} {n : Nd} {al : Value} {k : Nat} {Vs : List VN} {A2 : Option Addr} {c2 : Nat} {wr w' : World} (h : PlSt f W0 P n al k Vs A2 c2 wr) (hk : n.kids.length = k)
    (hblk : ∀ b, b ≠ W0.heap.size → w'.heap[b]? = wr.heap[b]?) (hz : w'.heap.size = wr.heap.size) : (VN.mk n.tag n.attrs n.text al (.slice A2 k c2) Vs).node = .mk n.tag n.attrs n.text (n.kids.map f) ∧ PV w' (Since W0.heap.size w') (.mk n.tag n.attrs n.text al (.slice A2 k c2) Vs) := by
  constructor
  · unfold VN.node
    rw [VN.nodeL_map, h.told, List.take_of_length_le (by omega)]
  · have hs := h.attrs
    have hr := h.row.row
    rw [h.len] at hr
    have h1 : w'.ownsRow W0.heap.size 55 2 al n.attrs.length (attrCells n.attrs) := own_same h.attrs fun b hb => hblk b (h.ne b hb).2
    have h2 : w'.ownsRow W0.heap.size 41 4 (.slice A2 k c2) k (kidsCells Vs) := own_same hr fun b hb => hblk b fun e => h.row.apart b hb (.inr (.inl e))
    refine .mk (own_rowQ h1 (by omega)) ?_ fun V hV => ?_
    · rw [h.len]; exact own_rowQ h2 (by omega)
    · refine ((h.row.kids V hV).keep fun b hb => hblk b fun e => hb.2.2.1 (.inr (.inl e))).mono fun b hb => ⟨hb.1, by rw [hz]; exact hb.2.1⟩

section
variable {w : World} {tb : Nat} {T : DT} {nv : Value} {G : List (Option NG)}

theorem node_cells {w' : World} {b : Nat} {t : TypeId} {c0 c1 c2 c3 c4 : Value} (h : At w' b t #[c0, c1, c2, c3, c4]) : w'.cell? ⟨b, 0, none⟩ = some c0 ∧ w'.cell? ⟨b, 1, none⟩ = some c1 ∧ w'.cell? ⟨b, 2, none⟩ = some c2 :=
  ⟨h.cell 0, h.cell 1, h.cell 2⟩

set_option maxRecDepth 100000 in
set_option maxHeartbeats 2000000 in
theorem plain_at (h : Rep w tb T nv G) (hW : T.WF) (hA : T.AB) : ∀ (f : Nat) (i : Nat) (n : Nd), T.at_ i = some n → 41 ≤ f + T.depthF DT.fuel i → ∀ W, Below w.heap.size w W →
    Calls Try.prog 33 #[.pointer (some ⟨tb, 0, none⟩), I (i : Int)] W (PlainRet (T.plainF DT.fuel i) W) := by
  intro f
  induction f with
  | zero => intro i n hi hf; have := hW.depth_le hi; omega
  | succ f ih =>
    intro i n hi hf W0 hb0
    have hl := hW.nodes_le
    have hn : T.get (i : Int) = some n := by rw [DT.get_nat]; exact hi
    have h' := h.keep hb0
    obtain ⟨g, hr, hgi, H⟩ := get_some h' hl hn
    have HG : Hid (∀ (W : World), Below W0.heap.size W0 W → Calls Try.prog 112 #[.pointer (some ⟨tb, 0, none⟩), .int .i64 (i : Int)] W fun e w' => e = .returned (.pointer (some ⟨g.b, 0, none⟩)) ∧ W = w') := by
      obtain ⟨p, hp, HG⟩ := get_ptr h' hl (i : Int)
      obtain ⟨g', hp', _, hg'⟩ := h'.ptr_some hn
      rw [hg'] at hgi
      obtain rfl := Option.some.inj (Option.some.inj hgi)
      rw [hp] at hp'
      cases hp'
      exact HG
    have hkl := kids_len hW hi
    have hal := hA i n hi
    have e : T.plainF DT.fuel i = .mk n.tag n.attrs n.text (n.kids.map (T.plainF DT.fuel)) := hW.plain_step hi
    have hgl := hr.1.lt
    obtain ⟨AA, acap, hav, _, _, _⟩ := hr.2.1.form
    obtain ⟨KA, kcap, hkv, hkcap, hkmx, hKA⟩ := hr.2.2.form
    have HC := Lib.hid (fun (W : World) (hb : Below W0.heap.size W0 W) => cloneAttr_any (hr.2.1.keep hb) (by omega) (attrCells_one n.attrs))
    have hN := hr.1
    rw [hav] at HC hN
    rw [hkv] at hN
    have hcn := hN.cell
    have HN := Lib.hid hN
    have IH : Hid (∀ k ∈ n.kids, ∀ W, Below w.heap.size w W → Calls Try.prog 33 #[.pointer (some ⟨tb, 0, none⟩), I (k : Int)] W (PlainRet (T.plainF DT.fuel k) W)) := by
      intro k hk
      obtain ⟨m, hm, _, hd⟩ := hW.kid_depth hi hk
      exact ih k m hm (by omega)
    have HK : Hid (∀ (j k : Nat), n.kids[j]? = some k → ∃ a, KA = some ⟨a, 0, none⟩ ∧ a < W0.heap.size ∧ W0.cell? ⟨a, j, none⟩ = some (.int .i64 (k : Int))) := by
      intro j k hjk
      obtain ⟨hj, e⟩ := List.getElem?_eq_some_iff.1 hjk
      obtain ⟨ga, cap', hv', _, _, hgl', hcell⟩ := hr.2.2.open_ (by omega)
      rw [hkv] at hv'
      injection hv' with h1 h2 h3
      exact ⟨ga, h1, hgl', by rw [hcell j hj, kidCells_get _ _ hj, e]⟩
    rw [e]
    clear h h' hn e hr hav hkv ih H hgi hN hi hW hA hf hKA
    have HB0 := Lib.hid hb0
    clear hb0
    generalize hm : n.kids.length = m at *
    generalize ham : n.attrs.length = am at *
    have HM := Lib.hid (And.intro hm ham)
    have hml : ((m : Nat) : Int) ≤ 2000 := by omega
    clear hm ham
    obtain ⟨i0, hi0, hz0, hz1, hz2⟩ := info_parts infoNode
    go_enter Try.func33, Try.ntmps33
    go_upto_region 4 with ((with_reducible refine (HG.out _ (by repeat (first | exact Below.refl _ _ | assumption | (refine Below.setCell ?_ (by first | (simp; done) | (simp; omega) | omega) _) | (refine Below.alloc ?_ (by first | (simp; done) | (simp; omega) | omega) _) | (refine Below.drew ?_) | (refine Below.drewN' ?_ _)))).mono ?_); rintro e w' ⟨rfl, rfl⟩)
    go_cut [6] (fun s6 wc => ∃ P A1 c1, s6 = .pointer (some ⟨P, 0, none⟩) ∧ At wc P 41 #[I n.tag, .slice A1 am c1, .string n.text, .slice none 0 0] ∧ wc.ownsRow W0.heap.size 55 2 (.slice A1 am c1) am (attrCells n.attrs) ∧ (∀ b, (Value.slice A1 am c1).ownBlock = some b → b ≠ P ∧ b ≠ W0.heap.size) ∧ At wc W0.heap.size 41 #[I 0, .slice none 0 0, .string ⟨#[]⟩, .slice none 0 0] ∧ Below W0.heap.size W0 wc ∧ W0.heap.size < P)
    case first =>
      go_region_held3 (fun w' => w'.cell? ⟨g.b, 0, none⟩ = some (I n.tag) ∧ w'.cell? ⟨g.b, 1, none⟩ = some (.slice AA am acap) ∧ w'.cell? ⟨g.b, 2, none⟩ = some (.string n.text)) (exact node_cells (t := 139) (by (repeat' (first | (with_reducible assumption) | (with_reducible refine unhid ?_; with_reducible assumption) | (with_reducible refine At.fresh _ _ _ (by first | (simp; done) | (simp; omega) | omega)) | (with_reducible apply At.set') | (with_reducible apply At.far) | (with_reducible apply At.alloc) | (with_reducible apply At.drew) | (with_reducible apply At.drewN) | exact (rfl : Array.setIfInBounds _ _ _ = _) | (refine Ne.symm ?_; simp; done) | (show _ ≠ _; simp; done) | (show _ ≠ _; simp; omega) | (show _ ≠ _; omega))); (first | done | fail))) (first | ((with_reducible refine (HC.out _ (by repeat (first | exact Below.refl _ _ | assumption | (refine Below.setCell ?_ (by first | (simp; done) | (simp; omega) | omega) _) | (refine Below.alloc ?_ (by first | (simp; done) | (simp; omega) | omega) _) | (refine Below.drew ?_) | (refine Below.drewN' ?_ _)))).mono ?_); rintro e w1 ⟨v_w1, rfl, hown, hb⟩; obtain ⟨A_w1, c_w1, rfl⟩ := own_form hown; have HO_w1 := Lib.hid hown; clear hown; have HBb_w1 := Lib.hid hb; have hz_w1 := hb.size; (try simp only [World.size_alloc, World.size_setCell, World.size_drew, size_drewN'] at hz_w1); (try (have t0_w1 : At w1 (W0.heap.size + 1) 41 #[I 0, .slice none 0 0, .string ⟨#[]⟩, .slice none 0 0] := At.keep (by (repeat' (first | (with_reducible assumption) | (with_reducible refine unhid ?_; with_reducible assumption) | (with_reducible refine At.fresh _ _ _ (by first | (simp; done) | (simp; omega) | omega)) | (with_reducible apply At.set') | (with_reducible apply At.far) | (with_reducible apply At.alloc) | (with_reducible apply At.drew) | (with_reducible apply At.drewN) | exact (rfl : Array.setIfInBounds _ _ _ = _) | (refine Ne.symm ?_; simp; done) | (show _ ≠ _; simp; done) | (show _ ≠ _; simp; omega) | (show _ ≠ _; omega))); (first | done | fail)) hb; have t0_w1c := At.cell t0_w1; have t0_w1f := At.frozen t0_w1; have t0_w1h := Lib.hid t0_w1; clear t0_w1)); have k0_w1 : At w1 (W0.heap.size) 41 #[I 0, .slice none 0 0, .string ⟨#[]⟩, .slice none 0 0] := At.keep (by (repeat' (first | (with_reducible assumption) | (with_reducible refine unhid ?_; with_reducible assumption) | (with_reducible refine At.fresh _ _ _ (by first | (simp; done) | (simp; omega) | omega)) | (with_reducible apply At.set') | (with_reducible apply At.far) | (with_reducible apply At.alloc) | (with_reducible apply At.drew) | (with_reducible apply At.drewN) | exact (rfl : Array.setIfInBounds _ _ _ = _) | (refine Ne.symm ?_; simp; done) | (show _ ≠ _; simp; done) | (show _ ≠ _; simp; omega) | (show _ ≠ _; omega))); (first | done | fail)) hb; have k0_w1c := At.cell k0_w1; have k0_w1f := At.frozen k0_w1; have k0_w1h := Lib.hid k0_w1; clear k0_w1; have k1_w1 : At w1 (g.b) 139 #[I n.tag, .slice AA am acap, .string n.text, .slice KA m kcap, I (DT.upI n.up)] := At.keep (by (repeat' (first | (with_reducible assumption) | (with_reducible refine unhid ?_; with_reducible assumption) | (with_reducible refine At.fresh _ _ _ (by first | (simp; done) | (simp; omega) | omega)) | (with_reducible apply At.set') | (with_reducible apply At.far) | (with_reducible apply At.alloc) | (with_reducible apply At.drew) | (with_reducible apply At.drewN) | exact (rfl : Array.setIfInBounds _ _ _ = _) | (refine Ne.symm ?_; simp; done) | (show _ ≠ _; simp; done) | (show _ ≠ _; simp; omega) | (show _ ≠ _; omega))); (first | done | fail)) hb; have k1_w1c := At.cell k1_w1; have k1_w1f := At.frozen k1_w1; have k1_w1h := Lib.hid k1_w1; clear k1_w1; have hb_w1 : Below W0.heap.size W0 w1 := Below.trans (by exact (by repeat (first | exact Below.refl _ _ | assumption | (refine Below.setCell ?_ (by first | (simp; done) | (simp; omega) | omega) _) | (refine Below.alloc ?_ (by first | (simp; done) | (simp; omega) | omega) _) | (refine Below.drew ?_) | (refine Below.drewN' ?_ _)))) (hb.mono (by first | (simp; done) | (simp; omega) | omega)); obtain ⟨hc_w1, hf_w1⟩ := bcell hb_w1; clear hb))
      all_goals
        go_wp2_with fail
        go_meet
        have hge := own_ge HO_w1.out
        simp only [World.size_alloc, World.size_drew] at hge
        refine ⟨_, _, _, rfl, (by (repeat' (first | (with_reducible assumption) | (with_reducible refine unhid ?_; with_reducible assumption) | (with_reducible refine At.fresh _ _ _ (by first | (simp; done) | (simp; omega) | omega)) | (with_reducible apply At.set') | (with_reducible apply At.far) | (with_reducible apply At.alloc) | (with_reducible apply At.drew) | (with_reducible apply At.drewN) | exact (rfl : Array.setIfInBounds _ _ _ = _) | (refine Ne.symm ?_; simp; done) | (show _ ≠ _; simp; done) | (show _ ≠ _; simp; omega) | (show _ ≠ _; omega))); (first | done | fail)), ?_, ?_, (by (repeat' (first | (with_reducible assumption) | (with_reducible refine unhid ?_; with_reducible assumption) | (with_reducible refine At.fresh _ _ _ (by first | (simp; done) | (simp; omega) | omega)) | (with_reducible apply At.set') | (with_reducible apply At.far) | (with_reducible apply At.alloc) | (with_reducible apply At.drew) | (with_reducible apply At.drewN) | exact (rfl : Array.setIfInBounds _ _ _ = _) | (refine Ne.symm ?_; simp; done) | (show _ ≠ _; simp; done) | (show _ ≠ _; simp; omega) | (show _ ≠ _; omega))); (first | done | fail)), (by repeat (first | exact Below.refl _ _ | assumption | (refine Below.setCell ?_ (by first | (simp; done) | (simp; omega) | omega) _) | (refine Below.alloc ?_ (by first | (simp; done) | (simp; omega) | omega) _) | (refine Below.drew ?_) | (refine Below.drewN' ?_ _))), ?_⟩
        · have h1 := own_base HO_w1.out (show W0.heap.size ≤ _ by simp; try omega)
          repeat (first | exact h1 | (refine ownsRow_setCell_other ?_ (fun e => by have := hge _ e; simp at this; try omega) _) | (refine World.ownsRow.alloc ?_ _))
        · intro b hb
          have := hge b hb
          constructor <;> omega
        · first | (simp; done) | (simp; omega) | omega
    case rest =>
      obtain ⟨P, A1, c1, rfl, kP, hown, hne1, kR, hb1, hlt⟩ := hcut
      obtain ⟨w1, rfl⟩ : ∃ w1, w1 = wc := ⟨_, rfl⟩
      have kN := HN.out.keep hb1
      have kNc := kN.cell
      have kPc := kP.cell
      have kPf := kP.frozen
      have kPl := kP.lt
      have hz_w1 := hb1.size
      have HS := Lib.hid (And.intro hown (And.intro hne1 (And.intro kR (And.intro hb1 kP))))
      have HK1 : Hid (∀ (j k : Nat), n.kids[j]? = some k → ∃ a, KA = some ⟨a, 0, none⟩ ∧ a < W0.heap.size ∧ a < w1.heap.size ∧ w1.cell? ⟨a, j, none⟩ = some (.int .i64 (k : Int))) := by
        intro j k hj
        obtain ⟨a, h1, h2, h3⟩ := HK.out j k hj
        exact ⟨a, h1, h2, by omega, by rw [← h3]; exact hb1.cell (p := ⟨a, j, none⟩) h2⟩
      clear hown hne1 kR hb1 kN kP
      go_upto_region 6 with fail
      go_loopw [8, 37] (fun _ s37 wr => ∃ k : Nat, k ≤ m ∧ s37 = .int .i64 k ∧ Hid (∃ Vs A2 c2, PlSt (T.plainF DT.fuel) W0 P n (.slice A1 am c1) k Vs A2 c2 wr)) (fun _ s37 _ => m - (intOf s37).toNat)
      case atStart =>
        refine ⟨0, Nat.zero_le _, rfl, [], none, 0, rfl, rfl, HS.out.2.2.2.2, HS.out.2.2.1, by rw [HM.out.2]; exact HS.out.1, NSt.nil _ _ _, HS.out.2.2.2.1, hlt, HS.out.2.1⟩
      case round =>
        obtain ⟨k, hk, rfl, hst⟩ := hrel
        obtain ⟨Vs, A2, c2, hst⟩ := hst.out
        have kP := hst.out
        have kPc := kP.cell
        have kPf := kP.frozen
        have kPl := kP.lt
        have kPh := Lib.hid kP
        have hbr := hst.below
        have hzr := hbr.size
        have hrow := hst.row.row
        rw [hst.len] at hrow
        have hrow0 := Lib.hid hrow
        have hPo : (Value.slice A2 k c2).ownBlock ≠ some P := fun e => hst.row.apart P e (.inl rfl)
        have HST := Lib.hid hst
        have hbw : Below w.heap.size w wr := HB0.out.trans (hbr.mono HB0.out.size)
        clear hst kP hrow
        by_cases hlt2 : k < m
        · obtain ⟨kk, hkk⟩ : ∃ kk, n.kids[k]? = some kk := ⟨_, List.getElem?_eq_getElem (by have := HM.out.1; omega)⟩
          obtain ⟨a, rfl, ha1, ha2, ha3⟩ := HK1.out k kk hkk
          have hcell : wr.cell? ⟨a, k, none⟩ = some (.int .i64 (kk : Int)) := by
            obtain ⟨a', h1, h2, h3⟩ := HK.out k kk hkk
            cases h1
            rw [← h3]; exact hbr.cell (p := ⟨a, k, none⟩) h2
          have hmem : kk ∈ n.kids := List.mem_of_getElem? hkk
          have IHk := Lib.hid (fun W hW => IH.out kk hmem W hW)
          have Hkk := Lib.hid hkk
          have HBW := Lib.hid hbw
          have HPo := Lib.hid hPo
          have HBR := Lib.hid hbr
          clear hkk hmem hbw hPo hbr ha3 kNc
          go_wp2_with fail
          go_region_law (first
            | (refine step_append_lies _ (by rfl) _ _ _ (by rfl) W0.heap.size 41 i0 _ 4 72 Try.underlying39 hi0 hz0 hz1 hz2 rfl (by omega) (.slice A2 k c2) k (kidsCells Vs) (by rfl) (World.ownsRow.alloc HR2.out _) ⟨w2.heap.size, 0, none⟩ 1 1 [I t, .slice a5 n5 c5, .string x, .slice a6 n6 c6] (by rfl) (by rfl) (World.news_of_block (cs := #[I t, .slice a5 n5 c5, .string x, .slice a6 n6 c6]) (t := 41) (fr := (0, 0)) (heap_alloc_new w2 _)) (VN.one HV.out.2.1) (by omega) (by unfold maxLen; omega) (by omega) (by simp; omega) (w2.heap.size + 1) (by simp) ?_; intro g1 cap1 w3 hown3 hgrow hlie hlt3; have kP3 : At w3 P 41 #[I n.tag, .slice A1 am c1, .string n.text, .slice A2 k c2] := (kP2h.out.alloc _).grown hgrow HPo.out; have kP3c := kP3.cell; have kP3f := kP3.frozen; have kP3h := Lib.hid kP3; have HG3 := Lib.hid (And.intro hown3 (And.intro hgrow (And.intro hlie kP3))); clear hown3 hgrow hlie kP3)
            | (go_simp; (with_reducible refine (IHk.out _ (by first | exact HBW.out | exact HBW.out.drew)).mono ?_); rintro e w2 ⟨⟨t, al, x, av, kv, ks⟩, he, hV1, hV2, hb0⟩; dsimp only [VN.agg] at he; subst he; obtain ⟨a5, n5, c5, a6, n6, c6, rfl, rfl⟩ := VN.forms hV2; have hb : Below wr.heap.size wr w2 := (by first | exact hb0 | exact (Below.drew (Below.refl _ _)).trans hb0); clear hb0; have hzw2 := hb.size; have HV := Lib.hid (And.intro hV1 (And.intro hV2 hb)); have kP2 : At w2 P 41 #[I n.tag, .slice A1 am c1, .string n.text, .slice A2 k c2] := kPh.out.keep hb; have hr2 : w2.ownsRow W0.heap.size 41 4 (.slice A2 k c2) k (kidsCells Vs) := own_same hrow0.out (fun b hb1 => hb.block b (own_ge hrow0.out b hb1).2); have HR2 := Lib.hid hr2; have kP2c := kP2.cell; have kP2f := kP2.frozen; have kP2h := Lib.hid kP2; clear hV1 hV2 hb kP2 hr2))
          all_goals
            go_wp2_with fail
            exact ⟨⟨k + 1, by omega, by go_num, _, _, _, HST.out.step Hkk.out HV.out.1 HV.out.2.1 HV.out.2.2 HG3.out.1 HG3.out.2.1 HG3.out.2.2.1⟩, by simp [intOf]; omega⟩
        · have hkm : k = m := by omega
          subst hkm
          have kRc := HST.out.res.cell
          have kRf := HST.out.res.frozen
          have kRl := HST.out.res.lt
          have hPR : P ≠ W0.heap.size := by omega
          have hRP : W0.heap.size ≠ P := by omega
          go_wp2_with fail
          have hD := HST.out.done (w' := (((wr.setCell ⟨W0.heap.size, 0, none⟩ (I n.tag)).setCell ⟨W0.heap.size, 1, none⟩ (.slice A1 am c1)).setCell ⟨W0.heap.size, 2, none⟩ (.string n.text)).setCell ⟨W0.heap.size, 3, none⟩ (.slice A2 k c2)) HM.out.1 (fun b hb => by
            rw [Below.heap_setCell _ _ _ _ hb, Below.heap_setCell _ _ _ _ hb, Below.heap_setCell _ _ _ _ hb, Below.heap_setCell _ _ _ _ hb]) (by simp only [World.size_setCell])
          have HBR := HST.out.below
          have HBF : Below W0.heap.size W0 ((((wr.setCell ⟨W0.heap.size, 0, none⟩ (I n.tag)).setCell ⟨W0.heap.size, 1, none⟩ (.slice A1 am c1)).setCell ⟨W0.heap.size, 2, none⟩ (.string n.text)).setCell ⟨W0.heap.size, 3, none⟩ (.slice A2 k c2)) := (by repeat (first | exact Below.refl _ _ | assumption | (refine Below.setCell ?_ (by first | (simp; done) | (simp; omega) | omega) _) | (refine Below.alloc ?_ (by first | (simp; done) | (simp; omega) | omega) _) | (refine Below.drew ?_) | (refine Below.drewN' ?_ _)))
          have kF : At ((((wr.setCell ⟨W0.heap.size, 0, none⟩ (I n.tag)).setCell ⟨W0.heap.size, 1, none⟩ (.slice A1 am c1)).setCell ⟨W0.heap.size, 2, none⟩ (.string n.text)).setCell ⟨W0.heap.size, 3, none⟩ (.slice A2 k c2)) W0.heap.size 41 #[I n.tag, .slice A1 am c1, .string n.text, .slice A2 k c2] := (((HST.out.res.set' rfl).set' rfl).set' rfl).set' rfl
          generalize ((((wr.setCell ⟨W0.heap.size, 0, none⟩ (I n.tag)).setCell ⟨W0.heap.size, 1, none⟩ (.slice A1 am c1)).setCell ⟨W0.heap.size, 2, none⟩ (.string n.text)).setCell ⟨W0.heap.size, 3, none⟩ (.slice A2 k c2)) = wF at hD HBF kF ⊢
          have kFc := kF.cell
          exact bodyPost_ret (v := .agg #[I n.tag, .slice A1 am c1, .string n.text, .slice A2 k c2]) (by simp [results, Try.results33, go_sem, kFc]) rfl ⟨.mk n.tag n.attrs n.text (.slice A1 am c1) (.slice A2 k c2) Vs, rfl, hD.1, hD.2, HBF⟩

set_option maxHeartbeats 400000 in
theorem plain_any (h : Rep w tb T nv G) (hW : T.WF) (hA : T.AB) (id : Int) (W : World) (hb : Below w.heap.size w W) :
    Calls Try.prog 33 #[.pointer (some ⟨tb, 0, none⟩), I id] W (PlainRet (T.plain id) W) := by
  have hl := hW.nodes_le
  cases hn : T.get id with
  | none =>
    have e : T.plain id = .mk 0 [] ByteArray.empty [] := by simp [DT.plain, DT.has, hn]
    have HG := Lib.hid (fun (W' : World) (hb' : Below W.heap.size W W') => get_none ((h.keep hb).keep hb') hl hn)
    rw [e]
    clear h hn e hb
    go_enter Try.func33, Try.ntmps33
    go_wp2_with ((with_reducible refine (HG.out _ (by repeat (first | exact Below.refl _ _ | assumption | (refine Below.setCell ?_ (by first | (simp; done) | (simp; omega) | omega) _) | (refine Below.alloc ?_ (by first | (simp; done) | (simp; omega) | omega) _) | (refine Below.drew ?_) | (refine Below.drewN' ?_ _)))).mono ?_); rintro e w' ⟨rfl, rfl⟩)
    have kF : At (W.alloc (.cells #[I 0, .slice none 0 0, .string ⟨#[]⟩, .slice none 0 0] 41)) W.heap.size 41 #[I 0, .slice none 0 0, .string ⟨#[]⟩, .slice none 0 0] := At.fresh _ _ _ rfl
    have kFc := kF.cell
    exact bodyPost_ret (v := .agg #[I 0, .slice none 0 0, .string ⟨#[]⟩, .slice none 0 0]) (by simp [results, Try.results33, go_sem, kFc]) rfl ⟨.mk 0 [] ByteArray.empty (.slice none 0 0) (.slice none 0 0) [], rfl, rfl, .mk (RowQ.nil _ _ _) (RowQ.nil _ _ _) (fun k hk => by cases hk), (by repeat (first | exact Below.refl _ _ | assumption | (refine Below.setCell ?_ (by first | (simp; done) | (simp; omega) | omega) _) | (refine Below.alloc ?_ (by first | (simp; done) | (simp; omega) | omega) _) | (refine Below.drew ?_) | (refine Below.drewN' ?_ _)))⟩
  | some n =>
    obtain ⟨h0, h1, h2⟩ := DT.get_some hn
    have := plain_at h hW hA 41 id.toNat n h1 (by omega) W hb
    rwa [h2, ← DT.plain_has hn] at this
end
end Go.Proofs.Ytnnjlpkjpbbklaa

-- DomCopy: Copy of package dom. Conditions: the tree lies in memory; no node has more than 200 attributes or more kids than there are nodes.
namespace Go.Proofs.Ytnnjlpkjpbbklaa
open Go.RowKit

/-- Where the loop of Copy stands. -/
structure CopySt (W0 : World) (cb : Nat) (T : DT) (j : Nat) (G : List (Option NG)) (A2 : Option Addr) (c2 : Nat) (wr : World) : Prop where
  tree : At wr cb 143 #[I T.cap, I T.dep, I (T.count : Int), .slice A2 j c2]
  len : G.length = j
  row : wr.ownsRow W0.heap.size 134 1 (.slice A2 j c2) j (G.map ngPtr)
  node : ∀ i n, i < j → T.at_ i = some n → ∃ g, G[i]? = some (some g) ∧ NodeRep wr g n
  none_ : ∀ i, i < j → T.at_ i = none → G[i]? = some none
  nodup : (repBlocks cb (.slice A2 j c2) G).Nodup
  ge : ∀ b ∈ repBlocks cb (.slice A2 j c2) G, W0.heap.size ≤ b ∧ b < wr.heap.size
  below : Below W0.heap.size W0 wr

section
variable {W0 wr w2 w3 : World} {cb : Nat} {T : DT} {j : Nat} {G : List (Option NG)} {A2 : Option Addr} {c2 : Nat}

theorem CopySt.push (h : CopySt W0 cb T j G A2 c2 wr) (hb : Below wr.heap.size wr w2) {o : Option NG} (hno : T.at_ j = none → o = none) (hso : ∀ n, T.at_ j = some n → ∃ g, o = some g ∧ NodeRep w2 g n) (hnd : (ngBlocks o).Nodup) (hge : ∀ b ∈ ngBlocks o, wr.heap.size ≤ b ∧ b < w2.heap.size)
    {obj : Obj} {g cap : Nat} (hown : w3.ownsRow W0.heap.size 134 1 (.slice (some ⟨g, 0, none⟩) (j + 1) cap) (j + 1) (G.map ngPtr ++ [ngPtr o])) (hg : (w2.alloc obj).grownBy w3 (Value.slice A2 j c2).ownBlock) (hlie : (Value.slice A2 j c2).ownBlock = some g ∨ g = w2.heap.size + 1) :
    CopySt W0 cb T (j + 1) (G ++ [o]) (some ⟨g, 0, none⟩) cap (w3.setCell ⟨cb, 3, none⟩ (.slice (some ⟨g, 0, none⟩) (j + 1) cap)) := by
  have hz := hb.size
  have hz3 := hg.size
  rw [World.size_alloc] at hz3
  have hbz := h.below.size
  have hlt3 := (own_ge hown g rfl).2
  have hcb : cb ∈ repBlocks cb (.slice A2 j c2) G := by simp [repBlocks]
  have hcbl := (h.ge cb hcb).2
  have hblk : ∀ b, b < wr.heap.size → (Value.slice A2 j c2).ownBlock ≠ some b → w3.heap[b]? = wr.heap[b]? := by
    intro b hb1 hne
    rw [hg.block b (by rw [World.size_alloc]; omega) (fun e => hne e.symm), Below.heap_alloc _ _ _ (by omega)]
    exact hb.block b hb1
  have hblk2 : ∀ b, wr.heap.size ≤ b → b < w2.heap.size → w3.heap[b]? = w2.heap[b]? := by
    intro b hb1 hb2
    rw [hg.block b (by rw [World.size_alloc]; omega) (fun e => by have := (h.ge b (by simp [repBlocks, ← e])).2; omega), Below.heap_alloc _ _ _ (by omega)]
  have hnd0 := h.nodup
  rw [repBlocks_eq, List.nodup_append] at hnd0
  obtain ⟨n1, n2, n3⟩ := hnd0
  have hrow : ∀ b, (Value.slice A2 j c2).ownBlock = some b → b ≠ cb := by
    intro b hb1 e
    subst e
    rw [List.nodup_cons] at n1
    exact n1.1 (by simp [hb1])
  have hnode : ∀ b ∈ G.flatMap ngBlocks, b ≠ cb ∧ (Value.slice A2 j c2).ownBlock ≠ some b := by
    intro b hb1
    exact ⟨fun e => n3 cb (by simp) b hb1 e.symm, fun e => n3 b (by simp [e]) b hb1 rfl⟩
  have hgcb : g ≠ cb := by
    rcases hlie with e | e
    · exact hrow g e
    · omega
  have hgG : ∀ b ∈ G.flatMap ngBlocks, b ≠ g := by
    intro b hb1 e
    subst e
    rcases hlie with e | e
    · exact (hnode b hb1).2 e
    · have := (h.ge b (by rw [repBlocks_eq]; exact List.mem_append.2 (.inr hb1))).2
      omega
  have hkeep : ∀ b ∈ G.flatMap ngBlocks, (w3.setCell ⟨cb, 3, none⟩ (.slice (some ⟨g, 0, none⟩) (j + 1) cap)).heap[b]? = wr.heap[b]? := by
    intro b hb1
    rw [Below.heap_setCell _ _ _ _ (hnode b hb1).1]
    exact hblk b (h.ge b (by rw [repBlocks_eq]; exact List.mem_append.2 (.inr hb1))).2 (hnode b hb1).2
  have hrb : repBlocks cb (.slice (some ⟨g, 0, none⟩) (j + 1) cap) (G ++ [o]) = cb :: g :: (G.flatMap ngBlocks ++ ngBlocks o) := by
    simp [repBlocks, Value.ownBlock]
  refine ⟨?_, by rw [List.length_append, h.len]; rfl, ?_, ?_, ?_, ?_, ?_, ?_⟩
  · exact At.set' (cs := #[I T.cap, I T.dep, I (T.count : Int), .slice A2 j c2]) ((hblk cb hcbl (fun e => hrow cb e rfl)).trans h.tree) rfl
  · rw [List.map_append]
    exact own_same hown fun b hb1 => by
      simp [Value.ownBlock] at hb1
      subst hb1
      exact Below.heap_setCell _ _ _ _ hgcb
  · intro i n hi hn
    by_cases e : i < j
    · obtain ⟨g', hg', hr'⟩ := h.node i n e hn
      refine ⟨g', by rw [List.getElem?_append_left (by rw [h.len]; exact e)]; exact hg', hr'.same fun b hb1 => hkeep b (List.mem_flatMap.2 ⟨some g', List.mem_of_getElem? hg', hb1⟩)⟩
    · have e' : i = j := by omega
      subst e'
      obtain ⟨g', rfl, hr'⟩ := hso n hn
      refine ⟨g', by rw [List.getElem?_append_right (by rw [h.len]; exact Nat.le_refl _), h.len]; simp, hr'.same fun b hb1 => ?_⟩
      have h1 := hge b hb1
      rw [Below.heap_setCell _ _ _ _ (show b ≠ cb by omega)]
      exact hblk2 b h1.1 h1.2
  · intro i hi hn
    by_cases e : i < j
    · rw [List.getElem?_append_left (by rw [h.len]; exact e)]; exact h.none_ i e hn
    · have e' : i = j := by omega
      subst e'
      rw [List.getElem?_append_right (by rw [h.len]; exact Nat.le_refl _), h.len, hno hn]; simp
  · rw [hrb, List.nodup_cons, List.nodup_cons]
    refine ⟨?_, ?_, ?_⟩
    · simp only [List.mem_cons, List.mem_append, not_or]
      refine ⟨fun e => hgcb e.symm, fun e => (hnode cb e).1 rfl, fun e => by have := (hge cb e).1; omega⟩
    · simp only [List.mem_append, not_or]
      refine ⟨fun e => hgG g e rfl, fun e => ?_⟩
      have h1 := hge g e
      rcases hlie with e1 | e1
      · have := (h.ge g (by simp [repBlocks, e1])).2; omega
      · omega
    · rw [List.nodup_append]
      refine ⟨n2, hnd, fun a ha b hb1 e => ?_⟩
      subst e
      have := (h.ge a (by rw [repBlocks_eq]; exact List.mem_append.2 (.inr ha))).2
      have := (hge a hb1).1
      omega
  · intro b hb1
    rw [hrb] at hb1
    simp only [List.mem_cons, List.mem_append] at hb1
    rw [World.size_setCell]
    rcases hb1 with rfl | rfl | h1 | h1
    · have := h.ge _ hcb; omega
    · have := (own_ge hown _ rfl).1; exact ⟨this, hlt3⟩
    · have := h.ge b (by rw [repBlocks_eq]; exact List.mem_append.2 (.inr h1)); omega
    · have := hge b h1; omega
  · refine Below.setCell ?_ (h.ge cb hcb).1 _
    refine ⟨hg.os.trans (hb.os.trans h.below.os), hg.tape.trans (hb.tape.trans h.below.tape), hg.output.trans (hb.output.trans h.below.output), by omega, fun b hb1 => ?_⟩
    rw [hblk b (by omega) (fun e => by have := (own_ge h.row b e).1; omega)]
    exact h.below.block b hb1

theorem CopySt.done (h : CopySt W0 cb T T.nodes.length G A2 c2 wr) : Tree wr cb T (fun b => W0.heap.size ≤ b) := by
  refine ⟨_, G, ⟨h.tree, h.len, ?_, fun i n hn => h.node i n (DT.at_lt hn) hn, fun i hi hn => h.none_ i (by rw [← h.len]; exact hi) hn, h.nodup⟩, fun b hb => (h.ge b hb).1⟩
  rw [h.len]; exact own_mono h.row
end

section
variable {w : World} {tb : Nat} {T : DT} {nv : Value} {G : List (Option NG)}

theorem NodeRep.keep' {w w' : World} {g : NG} {n : Nd} (h : NodeRep w g n) {B : Nat} (hb : Below B w w') (hB : ∀ b ∈ g.blocks, b < B) : NodeRep w' g n := h.same fun b hb1 => hb.block b (hB b hb1)
theorem cells13 {w' : World} {b : Nat} {t : TypeId} {c0 c1 c2 c3 c4 : Value} (h : At w' b t #[c0, c1, c2, c3, c4]) : w'.cell? ⟨b, 1, none⟩ = some c1 ∧ w'.cell? ⟨b, 3, none⟩ = some c3 := ⟨h.cell 1, h.cell 3⟩

set_option maxRecDepth 100000 in
set_option maxHeartbeats 2000000 in
theorem copy_any (h : Rep w tb T nv G) (hW : T.WF) (hA : T.AB) :
    Calls Try.prog 35 #[.pointer (some ⟨tb, 0, none⟩)] w fun e w' => e = .returned (.pointer (some ⟨w.heap.size, 0, none⟩)) ∧ Tree w' w.heap.size T (fun b => w.heap.size ≤ b) ∧ Below w.heap.size w w' := by
  have hl := hW.nodes_le
  have hlen := h.len
  obtain ⟨ng, ncap, hnv, hncap, hnmx, hnode⟩ := h.nodes_open hW
  have hrowAll : Hid (∀ j, j < T.nodes.length → ∃ o, G[j]? = some o ∧ w.cell? ⟨ng, j, none⟩ = some (ngPtr o) ∧ ng < w.heap.size) := by
    intro j hj
    obtain ⟨g', cap', hv', _, _, hgl', hcell⟩ := h.row.open_ (by rw [h.len]; exact WF.pos hW)
    rw [hnv] at hv'
    injection hv' with h1 _ _
    injection h1 with h1
    injection h1 with h1 _ _
    have hj' : j < G.length := by rw [hlen]; exact hj
    refine ⟨G[j], List.getElem?_eq_getElem hj', ?_, by rw [h1]; exact hgl'⟩
    rw [h1, hcell j hj', List.getElem?_map, List.getElem?_eq_getElem hj']
    rfl
  have htree := h.tree.cell
  have htl := h.tree.lt
  have hcnt : T.count ≤ 2000 := Nat.le_trans List.countP_le_length hl
  rw [hnv] at htree
  have HX := Lib.hid (And.intro h (And.intro hW (And.intro hA hnode)))
  obtain ⟨N, hN⟩ : ∃ N, N = T.nodes.length := ⟨_, rfl⟩
  rw [← hN] at htree hl hncap
  have HN := Lib.hid hN
  have hNl : ((N : Nat) : Int) ≤ 2000 := by omega
  obtain ⟨cn, hcn⟩ : ∃ cn, cn = T.count := ⟨_, rfl⟩
  rw [← hcn] at htree hcnt
  have HCN := Lib.hid hcn
  obtain ⟨i0, hi0, hz0, hz1, hz2⟩ := info_parts infoNodeP
  clear h hW hA hnode hN hcn hnv hlen
  go_enter Try.func35, Try.ntmps35
  go_upto_region 3 with fail
  go_region
  go_wp2_with fail
  go_loopw [5, 6, 28] (fun _ _ s28 wr => ∃ j : Nat, j ≤ N ∧ s28 = .int .i64 (j : Int) ∧ Hid (∃ G' A2 c2, CopySt w w.heap.size T j G' A2 c2 wr)) (fun _ _ s28 _ => N - (intOf s28).toNat)
  case atStart =>
    refine ⟨0, Nat.zero_le _, rfl, [], none, 0, ?_, rfl, World.ownsRow_nil _ _ _ _, fun i n hi => by omega, fun i hi => by omega, by simp [repBlocks, Value.ownBlock], ?_, (by repeat (first | exact Below.refl _ _ | assumption | (refine Below.setCell ?_ (by first | (simp; done) | (simp; omega) | omega) _) | (refine Below.alloc ?_ (by first | (simp; done) | (simp; omega) | omega) _) | (refine Below.drew ?_) | (refine Below.drewN' ?_ _)))⟩
    · rw [← HCN.out]; exact (by (repeat' (first | (with_reducible assumption) | (with_reducible refine unhid ?_; with_reducible assumption) | (with_reducible refine At.fresh _ _ _ (by first | (simp; done) | (simp; omega) | omega)) | (with_reducible apply At.set') | (with_reducible apply At.far) | (with_reducible apply At.alloc) | (with_reducible apply At.drew) | (with_reducible apply At.drewN) | exact (rfl : Array.setIfInBounds _ _ _ = _) | (refine Ne.symm ?_; simp; done) | (show _ ≠ _; simp; done) | (show _ ≠ _; simp; omega) | (show _ ≠ _; omega))); (first | done | fail))
    · intro b hb
      have : b = w.heap.size := by simpa [repBlocks, Value.ownBlock] using hb
      subst this
      simp
  case round =>
    obtain ⟨j, hj, rfl, hst⟩ := hrel
    obtain ⟨G', A2, c2, hst⟩ := hst.out
    have kT := hst.tree
    rw [← HCN.out] at kT
    have kTc := kT.cell
    have kTf := kT.frozen
    have kTl := kT.lt
    have hbr := hst.below
    have hzr := hbr.size
    have hcrow := Lib.hid hst.row
    have HT := Lib.hid kT
    have hno : (Value.slice A2 j c2).ownBlock ≠ some w.heap.size := fun e => by
      have := hst.nodup
      rw [repBlocks_eq, List.nodup_append, List.nodup_cons] at this
      exact this.1.1 (by simp [e])
    have HNo := Lib.hid hno
    have HST := Lib.hid hst
    have HBR := Lib.hid hbr
    clear hst kT hno
    by_cases hlt : j < N
    · obtain ⟨o, hGj, hcell, hngl⟩ := hrowAll.out j (by have := HN.out; omega)
      have hcell' : wr.cell? ⟨ng, j, none⟩ = some (ngPtr o) := by rw [← hcell]; exact hbr.cell (p := ⟨ng, j, none⟩) hngl
      have hngl' : ng < wr.heap.size := by omega
      have HG := Lib.hid hGj
      have hbound : (j + 1) * 8 ≤ 140737488355328 := by omega
      have HAp : ∀ (o' : Option NG) (w2 : World), Below wr.heap.size wr w2 → True := fun _ _ _ => trivial
      clear hbr hGj hcell HAp
      cases hTj : T.at_ j with
      | none =>
        have ho : o = none := by
          have h1 := HX.out.1.none_ j (by rw [HX.out.1.len]; exact (by have := HN.out; omega)) hTj
          rw [HG.out] at h1
          exact Option.some.inj h1
        subst ho
        have HTj := Lib.hid hTj
        clear hTj
        have hcell'' : wr.cell? ⟨ng, j, none⟩ = some (.pointer none) := hcell'
        clear hcell'
        go_upto_region 11 with fail
        go_wp2_with (at_builtin; refine wpList_append_lies _ rfl (.tmp 55) (.tmp 57) 141 rfl w.heap.size 134 i0 (.pointer none) 1 8 Try.underlying141 hi0 hz0 hz1 hz2 rfl (by decide) (.slice A2 j c2) j (G'.map ngPtr) rfl ?own ⟨wr.heap.size, 0, none⟩ 1 1 [.pointer none] rfl ?c1 ?c2 ?c3 (by decide) ?c4 ?c5 ?c6 (wr.heap.size + 1) ?c7 ?grow)
        case own => exact (own_same hcrow.out fun b hb1 => (Below.refl wr.heap.size wr).block b (own_ge hcrow.out b hb1).2).alloc _
        case c1 => rfl
        case c2 => exact cell_one_new _ _ _
        case c3 => intro u hu; simp at hu; rw [hu]; rfl
        case c4 => unfold maxLen; omega
        case c5 => omega
        case c6 => have := (Below.refl wr.heap.size wr).size; simp; omega
        case c7 => simp
        case grow =>
          intro g1 cap1 w3 hown3 hgrow hlie hlt3
          have kT3 : At w3 w.heap.size 143 #[I T.cap, I T.dep, I (cn : Int), .slice A2 j c2] := ((HT.out.keep (Below.refl wr.heap.size wr)).alloc _).grown hgrow HNo.out
          have kT3c := kT3.cell
          have kT3f := kT3.frozen
          have HP := Lib.hid (HST.out.push (o := none) (Below.refl wr.heap.size wr) (fun _ => rfl) (fun n hn => by rw [HTj.out] at hn; cases hn) List.nodup_nil (fun b hb => by cases hb) hown3 hgrow hlie)
          clear hown3 hgrow hlie kT3
          go_wp2_with fail
          exact ⟨⟨j + 1, by omega, by go_num, _, _, _, HP.out⟩, by simp [intOf]; omega⟩
      | some n =>
        obtain ⟨gb, hgb, hrb⟩ := HX.out.1.node j n hTj
        rw [HG.out] at hgb
        obtain rfl := Option.some.inj hgb
        have hrr := hrb.keep' HBR.out hrb.lt
        have hkl : n.kids.length ≤ 2000 := by have := kids_len HX.out.2.1 hTj; have := HN.out; omega
        have hal := HX.out.2.2.1 j n hTj
        obtain ⟨AA, acap, hav, _, _, _⟩ := hrr.2.1.form
        obtain ⟨KA, kcap, hkv, _, _, _⟩ := hrr.2.2.form
        have hN := hrr.1
        have HCa := Lib.hid (fun (W : World) (hb : Below wr.heap.size wr W) => cloneAttr_any (hrr.2.1.keep hb) (by omega) (attrCells_one n.attrs))
        have HCk := Lib.hid (fun (W : World) (hb : Below wr.heap.size wr W) => cloneInt_any (hrr.2.2.keep hb) (by omega) (kidCells_one n.kids))
        rw [hav] at hN HCa
        rw [hkv] at hN HCk
        have hNc := hN.cell
        have hNl := hN.lt
        have hNh := Lib.hid hN
        have hcell'' : wr.cell? ⟨ng, j, none⟩ = some (.pointer (some ⟨gb.b, 0, none⟩)) := hcell'
        have HTj := Lib.hid hTj
        generalize hm : n.kids.length = m at *
        generalize ham : n.attrs.length = am at *
        generalize hup : DT.upI n.up = u at *
        have HM := Lib.hid (And.intro hm (And.intro ham hup))
        have hml : ((m : Nat) : Int) ≤ 2000 := by omega
        clear hcell' hTj hrb hrr hav hkv hm ham hup hN
        go_upto_region 9 with fail
        go_cut [6] (fun s6 wc => ∃ A1 k1 A3 k3, s6 = .pointer (some ⟨wr.heap.size, 0, none⟩) ∧ At wc wr.heap.size 139 #[I n.tag, .slice A1 am k1, .string n.text, .slice A3 m k3, I u] ∧ wc.ownsRow (wr.heap.size + 1) 55 2 (.slice A1 am k1) am (attrCells n.attrs) ∧ wc.ownsRow (wr.heap.size + 1) 3 1 (.slice A3 m k3) m (kidCells n.kids) ∧ (∀ b, (Value.slice A1 am k1).ownBlock = some b → (Value.slice A3 m k3).ownBlock ≠ some b) ∧ Below wr.heap.size wr wc)
        case first =>
          go_region_held3 (fun w' => w'.cell? ⟨gb.b, 1, none⟩ = some (.slice AA am acap) ∧ w'.cell? ⟨gb.b, 3, none⟩ = some (.slice KA m kcap)) (exact cells13 (t := 139) (by (repeat' (first | (with_reducible assumption) | (with_reducible refine unhid ?_; with_reducible assumption) | (with_reducible refine At.fresh _ _ _ (by first | (simp; done) | (simp; omega) | omega)) | (with_reducible apply At.set') | (with_reducible apply At.far) | (with_reducible apply At.alloc) | (with_reducible apply At.drew) | (with_reducible apply At.drewN) | exact (rfl : Array.setIfInBounds _ _ _ = _) | (refine Ne.symm ?_; simp; done) | (show _ ≠ _; simp; done) | (show _ ≠ _; simp; omega) | (show _ ≠ _; omega))); (first | done | fail))) (first | ((with_reducible refine (HCa.out _ (by repeat (first | exact Below.refl _ _ | assumption | (refine Below.setCell ?_ (by first | (simp; done) | (simp; omega) | omega) _) | (refine Below.alloc ?_ (by first | (simp; done) | (simp; omega) | omega) _) | (refine Below.drew ?_) | (refine Below.drewN' ?_ _)))).mono ?_); rintro e w1 ⟨v_w1, rfl, hown, hb⟩; obtain ⟨A_w1, c_w1, rfl⟩ := own_form hown; have HO_w1 := Lib.hid hown; clear hown; have HBb_w1 := Lib.hid hb; have hz_w1 := hb.size; (try simp only [World.size_alloc, World.size_setCell, World.size_drew, size_drewN'] at hz_w1); have k0_w1 : At w1 (gb.b) 139 #[I n.tag, .slice AA am acap, .string n.text, .slice KA m kcap, I u] := At.keep (by (repeat' (first | (with_reducible assumption) | (with_reducible refine unhid ?_; with_reducible assumption) | (with_reducible refine At.fresh _ _ _ (by first | (simp; done) | (simp; omega) | omega)) | (with_reducible apply At.set') | (with_reducible apply At.far) | (with_reducible apply At.alloc) | (with_reducible apply At.drew) | (with_reducible apply At.drewN) | exact (rfl : Array.setIfInBounds _ _ _ = _) | (refine Ne.symm ?_; simp; done) | (show _ ≠ _; simp; done) | (show _ ≠ _; simp; omega) | (show _ ≠ _; omega))); (first | done | fail)) hb; have k0_w1c := At.cell k0_w1; have k0_w1f := At.frozen k0_w1; have k0_w1h := Lib.hid k0_w1; clear k0_w1; have k1_w1 : At w1 (wr.heap.size) 139 #[I n.tag, .slice AA am acap, .string n.text, .slice KA m kcap, I u] := At.keep (by (repeat' (first | (with_reducible assumption) | (with_reducible refine unhid ?_; with_reducible assumption) | (with_reducible refine At.fresh _ _ _ (by first | (simp; done) | (simp; omega) | omega)) | (with_reducible apply At.set') | (with_reducible apply At.far) | (with_reducible apply At.alloc) | (with_reducible apply At.drew) | (with_reducible apply At.drewN) | exact (rfl : Array.setIfInBounds _ _ _ = _) | (refine Ne.symm ?_; simp; done) | (show _ ≠ _; simp; done) | (show _ ≠ _; simp; omega) | (show _ ≠ _; omega))); (first | done | fail)) hb; have k1_w1c := At.cell k1_w1; have k1_w1f := At.frozen k1_w1; have k1_w1h := Lib.hid k1_w1; clear k1_w1; have hb_w1 : Below wr.heap.size wr w1 := Below.trans (by exact (by repeat (first | exact Below.refl _ _ | assumption | (refine Below.setCell ?_ (by first | (simp; done) | (simp; omega) | omega) _) | (refine Below.alloc ?_ (by first | (simp; done) | (simp; omega) | omega) _) | (refine Below.drew ?_) | (refine Below.drewN' ?_ _)))) (hb.mono (by first | (simp; done) | (simp; omega) | omega)); obtain ⟨hc_w1, hf_w1⟩ := bcell hb_w1; clear hb) | ((with_reducible refine (HCk.out _ (by repeat (first | exact Below.refl _ _ | assumption | (refine Below.setCell ?_ (by first | (simp; done) | (simp; omega) | omega) _) | (refine Below.alloc ?_ (by first | (simp; done) | (simp; omega) | omega) _) | (refine Below.drew ?_) | (refine Below.drewN' ?_ _)))).mono ?_); rintro e w2 ⟨v_w2, rfl, hown, hb⟩; obtain ⟨A_w2, c_w2, rfl⟩ := own_form hown; have HO_w2 := Lib.hid hown; clear hown; have HBb_w2 := Lib.hid hb; have hz_w2 := hb.size; (try simp only [World.size_alloc, World.size_setCell, World.size_drew, size_drewN'] at hz_w2); have k0_w2 : At w2 (gb.b) 139 #[I n.tag, .slice AA am acap, .string n.text, .slice KA m kcap, I u] := At.keep (by (repeat' (first | (with_reducible assumption) | (with_reducible refine unhid ?_; with_reducible assumption) | (with_reducible refine At.fresh _ _ _ (by first | (simp; done) | (simp; omega) | omega)) | (with_reducible apply At.set') | (with_reducible apply At.far) | (with_reducible apply At.alloc) | (with_reducible apply At.drew) | (with_reducible apply At.drewN) | exact (rfl : Array.setIfInBounds _ _ _ = _) | (refine Ne.symm ?_; simp; done) | (show _ ≠ _; simp; done) | (show _ ≠ _; simp; omega) | (show _ ≠ _; omega))); (first | done | fail)) hb; have k0_w2c := At.cell k0_w2; have k0_w2f := At.frozen k0_w2; have k0_w2h := Lib.hid k0_w2; clear k0_w2; have k1_w2 : At w2 (wr.heap.size) 139 #[I n.tag, .slice AA am acap, .string n.text, .slice KA m kcap, I u] := At.keep (by (repeat' (first | (with_reducible assumption) | (with_reducible refine unhid ?_; with_reducible assumption) | (with_reducible refine At.fresh _ _ _ (by first | (simp; done) | (simp; omega) | omega)) | (with_reducible apply At.set') | (with_reducible apply At.far) | (with_reducible apply At.alloc) | (with_reducible apply At.drew) | (with_reducible apply At.drewN) | exact (rfl : Array.setIfInBounds _ _ _ = _) | (refine Ne.symm ?_; simp; done) | (show _ ≠ _; simp; done) | (show _ ≠ _; simp; omega) | (show _ ≠ _; omega))); (first | done | fail)) hb; have k1_w2c := At.cell k1_w2; have k1_w2f := At.frozen k1_w2; have k1_w2h := Lib.hid k1_w2; clear k1_w2; have hb_w2 : Below wr.heap.size wr w2 := Below.trans (by exact (by repeat (first | exact Below.refl _ _ | assumption | (refine Below.setCell ?_ (by first | (simp; done) | (simp; omega) | omega) _) | (refine Below.alloc ?_ (by first | (simp; done) | (simp; omega) | omega) _) | (refine Below.drew ?_) | (refine Below.drewN' ?_ _)))) (hb.mono (by first | (simp; done) | (simp; omega) | omega)); obtain ⟨hc_w2, hf_w2⟩ := bcell hb_w2; clear hb))
          all_goals go_wp2_with fail
          all_goals
            go_meet
            have h1 := own_ge HO_w1.out
            have h2 := own_ge HO_w2.out
            simp only [World.size_alloc, World.size_setCell, World.size_drew] at h1 h2
            have hne1 : ∀ b, (Value.slice A_w1 am c_w1).ownBlock = some b → b ≠ wr.heap.size := fun b hb => by have := h1 b hb; omega
            have hne2 : ∀ b, (Value.slice A_w2 m c_w2).ownBlock = some b → b ≠ wr.heap.size := fun b hb => by have := h2 b hb; omega
            have o1 := own_same (own_base HO_w1.out (show wr.heap.size + 1 ≤ _ from (by first | (simp; done) | (simp; omega) | omega))) fun b hb => HBb_w2.out.block b (h1 b hb).2
            have o2 := own_base HO_w2.out (show wr.heap.size + 1 ≤ _ from (by first | (simp; done) | (simp; omega) | omega))
            refine ⟨_, _, _, _, rfl, (by (repeat' (first | (with_reducible assumption) | (with_reducible refine unhid ?_; with_reducible assumption) | (with_reducible refine At.fresh _ _ _ (by first | (simp; done) | (simp; omega) | omega)) | (with_reducible apply At.set') | (with_reducible apply At.far) | (with_reducible apply At.alloc) | (with_reducible apply At.drew) | (with_reducible apply At.drewN) | exact (rfl : Array.setIfInBounds _ _ _ = _) | (refine Ne.symm ?_; simp; done) | (show _ ≠ _; simp; done) | (show _ ≠ _; simp; omega) | (show _ ≠ _; omega))); (first | done | fail)), ?_, ?_, fun b hb e => ?_, (by repeat (first | exact Below.refl _ _ | assumption | (refine Below.setCell ?_ (by first | (simp; done) | (simp; omega) | omega) _) | (refine Below.alloc ?_ (by first | (simp; done) | (simp; omega) | omega) _) | (refine Below.drew ?_) | (refine Below.drewN' ?_ _)))⟩
            · exact own_same o1 fun b hb => by rw [Below.heap_setCell _ _ _ _ (hne1 b hb), Below.heap_setCell _ _ _ _ (hne1 b hb)]
            · exact own_same o2 fun b hb => by rw [Below.heap_setCell _ _ _ _ (hne2 b hb), Below.heap_setCell _ _ _ _ (hne2 b hb)]
            · have := h1 b hb; have := h2 b e; omega
        case rest =>
          obtain ⟨A1, k1, A3, k3, rfl, kM, o1, o2, hne, hbc⟩ := hcut
          obtain ⟨wm, rfl⟩ : ∃ wm, wm = wc := ⟨_, rfl⟩
          have hzm := hbc.size
          have hMl := kM.lt
          have HNd : Hid (NodeRep wm ⟨wr.heap.size, .slice A1 am k1, .slice A3 m k3⟩ n ∧ (ngBlocks (some ⟨wr.heap.size, .slice A1 am k1, .slice A3 m k3⟩)).Nodup ∧ ∀ b ∈ ngBlocks (some ⟨wr.heap.size, .slice A1 am k1, .slice A3 m k3⟩), wr.heap.size ≤ b ∧ b < wm.heap.size) := by
            have g1 := own_ge o1
            have g2 := own_ge o2
            refine ⟨⟨?_, ?_, ?_⟩, ?_, ?_⟩
            · rw [HM.out.2.2]; exact kM
            · rw [HM.out.2.1]; exact own_mono o1
            · rw [HM.out.1]; exact own_mono o2
            · simp only [ngBlocks, NG.blocks, List.nodup_cons, List.mem_append, Option.mem_toList, not_or, List.nodup_append]
              refine ⟨⟨fun e => by have := g1 _ e; omega, fun e => by have := g2 _ e; omega⟩, ?_, ?_, fun a ha b hb1 e => ?_⟩
              · cases (Value.slice A1 am k1).ownBlock <;> simp
              · cases (Value.slice A3 m k3).ownBlock <;> simp
              · subst e
                exact hne a (by simpa using ha) (by simpa using hb1)
            · intro b hb
              simp only [ngBlocks, NG.blocks, List.mem_cons, List.mem_append, Option.mem_toList] at hb
              rcases hb with rfl | hb | hb
              · exact ⟨Nat.le_refl _, hMl⟩
              · have := g1 b hb; omega
              · have := g2 b hb; omega
          have HBC := Lib.hid hbc
          have kTm := HT.out.keep hbc
          have kTmc := kTm.cell
          have kTmf := kTm.frozen
          have kTml := kTm.lt
          clear kM o1 o2 hne hbc kTm
          go_wp2_with (at_builtin; refine wpList_append_lies _ rfl (.tmp 55) (.tmp 57) 141 rfl w.heap.size 134 i0 (.pointer none) 1 8 Try.underlying141 hi0 hz0 hz1 hz2 rfl (by decide) (.slice A2 j c2) j (G'.map ngPtr) rfl ?own ⟨wm.heap.size, 0, none⟩ 1 1 [.pointer (some ⟨wr.heap.size, 0, none⟩)] rfl ?c1 ?c2 ?c3 (by decide) ?c4 ?c5 ?c6 (wm.heap.size + 1) ?c7 ?grow)
          case own => exact (own_same hcrow.out fun b hb1 => (HBC.out).block b (own_ge hcrow.out b hb1).2).alloc _
          case c3 => rfl
          case c4 => unfold maxLen; omega
          case c6 => have := (HBC.out).size; simp; omega
          case grow =>
            intro g1 cap1 w3 hown3 hgrow hlie hlt3
            have kT3 : At w3 w.heap.size 143 #[I T.cap, I T.dep, I (cn : Int), .slice A2 j c2] := ((HT.out.keep (HBC.out)).alloc _).grown hgrow HNo.out
            have kT3c := kT3.cell
            have kT3f := kT3.frozen
            have HP := Lib.hid (HST.out.push (o := some ⟨wr.heap.size, .slice A1 am k1, .slice A3 m k3⟩) (HBC.out) (fun e => by rw [HTj.out] at e; cases e) (fun n' hn' => by rw [HTj.out] at hn'; cases hn'; exact ⟨_, rfl, HNd.out.1⟩) HNd.out.2.1 HNd.out.2.2 hown3 hgrow hlie)
            clear hown3 hgrow hlie kT3
            go_wp2_with fail
            exact ⟨⟨j + 1, by omega, by go_num, _, _, _, HP.out⟩, by simp [intOf]; omega⟩
    · have hjN : j = N := by omega
      subst hjN
      go_wp2_with fail
      go_ret
      have hD := HST.out
      rw [HN.out] at hD
      exact ⟨rfl, hD.done, HBR.out⟩
end
end Go.Proofs.Ytnnjlpkjpbbklaa
