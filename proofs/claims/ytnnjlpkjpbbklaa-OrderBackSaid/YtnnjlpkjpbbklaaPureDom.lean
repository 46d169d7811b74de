/-
  The tree of nodes as plain data, its calls, what is sound of it, and the order of its nodes and places. No program in sight. Conditions: none.
-/
-- Dom: The tree of nodes as plain data: what package dom and the document's answer of chapter 8 both compute. No program in sight. Conditions: none.
set_option linter.unusedVariables false
set_option linter.unusedSimpArgs false
namespace Go.Proofs.Ytnnjlpkjpbbklaa

abbrev Bytes := ByteArray

structure Nd where
  tag : Int
  attrs : List (Bytes × Bytes)
  text : Bytes
  kids : List Nat
  up : Option Nat

structure DT where
  cap : Int
  dep : Int
  nodes : List (Option Nd)

inductive PNode where
  | mk (tag : Int) (attrs : List (Bytes × Bytes)) (text : Bytes) (kids : List PNode)

namespace PNode
def tag : PNode → Int | mk t _ _ _ => t
def attrs : PNode → List (Bytes × Bytes) | mk _ a _ _ => a
def text : PNode → Bytes | mk _ _ t _ => t
def kids : PNode → List PNode | mk _ _ _ k => k
end PNode

namespace DT
/-- The node of a number; none: there is none. -/
def at_ (T : DT) (i : Nat) : Option Nd := (T.nodes[i]?).getD none
def get (T : DT) (id : Int) : Option Nd := if id < 0 then none else T.at_ id.toNat
def has (T : DT) (id : Int) : Bool := (T.get id).isSome
def count (T : DT) : Nat := T.nodes.countP Option.isSome
def put (T : DT) (i : Nat) (n : Option Nd) : DT := { T with nodes := T.nodes.set i n }
/-- The least number that no node has. -/
def slot (T : DT) : Nat := T.nodes.findIdx Option.isNone
def addAt (T : DT) (n : Nd) : DT := if T.slot < T.nodes.length then T.put T.slot (some n) else { T with nodes := T.nodes ++ [some n] }
def upI (o : Option Nat) : Int := match o with | none => -1 | some p => p
def tagOf (T : DT) (id : Int) : Int := match T.get id with | some n => n.tag | none => -1
def upOf (T : DT) (id : Int) : Int := match T.get id with | some n => upI n.up | none => -1
def kidsOf (T : DT) (id : Int) : List Nat := match T.get id with | some n => n.kids | none => []
def textOf (T : DT) (id : Int) : Bytes := match T.get id with | some n => n.text | none => ByteArray.empty
def attrsOf (T : DT) (id : Int) : List (Bytes × Bytes) := match T.get id with | some n => n.attrs | none => []
/-- The number of a node's parent, fuel by fuel. -/
def up (T : DT) (i : Nat) : Option Nat := (T.at_ i).bind Nd.up
def depthF (T : DT) : Nat → Nat → Nat
  | 0, _ => 0
  | f + 1, i => match T.up i with | none => 0 | some p => depthF T f p + 1
def fuel : Nat := 64
def depth (T : DT) (id : Int) : Int := if T.has id then (T.depthF fuel id.toNat : Int) else -1
def rootF (T : DT) : Nat → Nat → Nat
  | 0, i => i
  | f + 1, i => match T.up i with | none => i | some p => rootF T f p
def root (T : DT) (i : Nat) : Nat := T.rootF fuel i
def withinF (T : DT) : Nat → Nat → Nat → Bool
  | 0, i, o => i == o
  | f + 1, i, o => i == o || match T.up i with | none => false | some p => withinF T f p o
def within (T : DT) (i o : Nat) : Bool := T.withinF fuel i o
def heightF (T : DT) : Nat → Nat → Nat
  | 0, _ => 0
  | f + 1, i => match T.at_ i with
    | none => 0
    | some n => n.kids.foldl (fun h k => max h (heightF T f k + 1)) 0
def height (T : DT) (id : Int) : Int := if T.has id then (T.heightF fuel id.toNat : Int) else -1
def plainF (T : DT) : Nat → Nat → PNode
  | 0, _ => .mk 0 [] ByteArray.empty []
  | f + 1, i => match T.at_ i with
    | none => .mk 0 [] ByteArray.empty []
    | some n => .mk n.tag n.attrs n.text (n.kids.map (plainF T f))
def plain (T : DT) (id : Int) : PNode := if T.has id then T.plainF fuel id.toNat else .mk 0 [] ByteArray.empty []
def indexOf (T : DT) (id : Int) : Int := match T.get (T.upOf id) with
  | none => -1
  | some p => if (id.toNat) ∈ p.kids ∧ 0 ≤ id then (p.kids.idxOf id.toNat : Int) else -1
def live (T : DT) (id : Int) : Bool := T.has id && T.within id.toNat 0

/-- What is sound of every tree that calls make. -/
structure WF (T : DT) : Prop where
  cap1 : 1 ≤ T.cap
  cap2 : T.cap ≤ 2000
  dep1 : 0 ≤ T.dep
  dep2 : T.dep ≤ 40
  len : (T.nodes.length : Int) ≤ T.cap
  host : ∃ n, T.at_ 0 = some n ∧ n.tag = 1 ∧ n.up = none
  kid : ∀ i n k, T.at_ i = some n → k ∈ n.kids → ∃ m, T.at_ k = some m ∧ m.up = some i
  par : ∀ i n p, T.at_ i = some n → n.up = some p → ∃ m, T.at_ p = some m ∧ i ∈ m.kids
  nodup : ∀ i n, T.at_ i = some n → n.kids.Nodup
  leaf : ∀ i n, T.at_ i = some n → n.tag = 0 → n.kids = []
  tags : ∀ i n, T.at_ i = some n → 0 ≤ n.tag ∧ n.tag ≤ 16
  txt : ∀ i n, T.at_ i = some n → n.text.size ≤ 8192
  rank : ∃ d : Nat → Nat, ∀ i n, T.at_ i = some n → (n.up = none → d i = 0) ∧ (∀ p, n.up = some p → d i = d p + 1) ∧ (d i : Int) ≤ T.dep
end DT
end Go.Proofs.Ytnnjlpkjpbbklaa

-- DomLem: The tree as plain data: depth, root, within, height, plain: what one step of each is in a sound tree. No program in sight. Conditions: none.
namespace Go.Proofs.Ytnnjlpkjpbbklaa
namespace DT
variable {T : DT}

theorem at_lt {i : Nat} {n : Nd} (h : T.at_ i = some n) : i < T.nodes.length := by
  unfold at_ at h
  by_cases hi : i < T.nodes.length
  · exact hi
  · rw [List.getElem?_eq_none (by omega)] at h; cases h

theorem get_nat (i : Nat) : T.get (i : Int) = T.at_ i := by unfold get; rw [if_neg (by omega)]; simp
theorem get_neg {id : Int} (h : id < 0) : T.get id = none := by simp [get, h]
theorem get_some {id : Int} {n : Nd} (h : T.get id = some n) : 0 ≤ id ∧ T.at_ id.toNat = some n ∧ (id.toNat : Int) = id := by
  unfold get at h
  split at h
  · cases h
  · exact ⟨by omega, h, by omega⟩
theorem get_lt {id : Int} {n : Nd} (h : T.get id = some n) : id < T.nodes.length := by
  obtain ⟨h1, h2, h3⟩ := get_some h
  have := at_lt h2
  omega

theorem WF.nodes_le (h : T.WF) : T.nodes.length ≤ 2000 := by have := h.len; have := h.cap2; omega

/-- The rank is the depth. -/
theorem depthF_rank {d : Nat → Nat} (hd : ∀ i n, T.at_ i = some n → (n.up = none → d i = 0) ∧ (∀ p, n.up = some p → d i = d p + 1) ∧ (d i : Int) ≤ T.dep)
    (hp : ∀ i n p, T.at_ i = some n → n.up = some p → ∃ m, T.at_ p = some m ∧ i ∈ m.kids) :
    ∀ f i n, T.at_ i = some n → d i < f → T.depthF f i = d i := by
  intro f
  induction f with
  | zero => intro i n _ h; omega
  | succ f ih =>
    intro i n hi hf
    obtain ⟨h1, h2, _⟩ := hd i n hi
    unfold depthF
    cases hu : n.up with
    | none =>
      have e : T.up i = none := by simp [up, hi, hu]
      rw [e, h1 hu]
    | some p =>
      have e : T.up i = some p := by simp [up, hi, hu]
      obtain ⟨m, hm, _⟩ := hp i n p hi hu
      have := h2 p hu
      rw [e]
      show T.depthF f p + 1 = d i
      rw [ih p m hm (by omega)]
      omega

theorem WF.rank_depth (h : T.WF) : ∀ i n, T.at_ i = some n → (n.up = none → T.depthF fuel i = 0) ∧ (∀ p, n.up = some p → T.depthF fuel i = T.depthF fuel p + 1) ∧ (T.depthF fuel i : Int) ≤ T.dep := by
  obtain ⟨d, hd⟩ := h.rank
  have key : ∀ i n, T.at_ i = some n → T.depthF fuel i = d i := fun i n hi =>
    depthF_rank hd h.par fuel i n hi (by have := (hd i n hi).2.2; have := h.dep2; unfold fuel; omega)
  intro i n hi
  obtain ⟨h1, h2, h3⟩ := hd i n hi
  rw [key i n hi]
  refine ⟨h1, fun p hu => ?_, h3⟩
  obtain ⟨m, hm, _⟩ := h.par i n p hi hu
  rw [key p m hm]
  exact h2 p hu

theorem WF.depth_le (h : T.WF) {i : Nat} {n : Nd} (hi : T.at_ i = some n) : T.depthF fuel i ≤ 40 := by
  have := (h.rank_depth i n hi).2.2
  have := h.dep2
  omega
theorem WF.depth_root (h : T.WF) {i : Nat} {n : Nd} (hi : T.at_ i = some n) (hu : n.up = none) : T.depthF fuel i = 0 := (h.rank_depth i n hi).1 hu
theorem WF.depth_up (h : T.WF) {i p : Nat} {n : Nd} (hi : T.at_ i = some n) (hu : n.up = some p) : T.depthF fuel i = T.depthF fuel p + 1 := (h.rank_depth i n hi).2.1 p hu

/-- A fuel that is enough serves as any other. -/
theorem WF.within_enough (h : T.WF) (o : Nat) : ∀ f g i n, T.at_ i = some n → T.depthF fuel i < f → T.depthF fuel i < g → T.withinF f i o = T.withinF g i o := by
  intro f
  induction f with
  | zero => intro g i n _ hf; omega
  | succ f ih =>
    intro g i n hi hf hg
    obtain ⟨g, rfl⟩ : ∃ k, g = k + 1 := ⟨g - 1, by omega⟩
    unfold withinF
    cases hu : n.up with
    | none =>
      have e : T.up i = none := by simp [up, hi, hu]
      rw [e]
    | some p =>
      have e : T.up i = some p := by simp [up, hi, hu]
      obtain ⟨m, hm, _⟩ := h.par i n p hi hu
      have hd := h.depth_up hi hu
      rw [e]
      show (i == o || T.withinF f p o) = (i == o || T.withinF g p o)
      rw [ih g p m hm (by omega) (by omega)]

theorem WF.within_step (h : T.WF) {i : Nat} {n : Nd} (hi : T.at_ i = some n) (o : Nat) :
    T.within i o = (i == o || match n.up with | none => false | some p => T.within p o) := by
  have h1 := h.depth_le hi
  unfold within
  rw [h.within_enough o fuel (fuel + 1) i n hi (by unfold fuel at *; omega) (by unfold fuel at *; omega)]
  show (i == o || _) = _
  simp only [up, hi, Option.bind_some]
  rfl

theorem WF.root_enough (h : T.WF) : ∀ f g i n, T.at_ i = some n → T.depthF fuel i < f → T.depthF fuel i < g → T.rootF f i = T.rootF g i := by
  intro f
  induction f with
  | zero => intro g i n _ hf; omega
  | succ f ih =>
    intro g i n hi hf hg
    obtain ⟨g, rfl⟩ : ∃ k, g = k + 1 := ⟨g - 1, by omega⟩
    unfold rootF
    cases hu : n.up with
    | none =>
      have e : T.up i = none := by simp [up, hi, hu]
      rw [e]
    | some p =>
      have e : T.up i = some p := by simp [up, hi, hu]
      obtain ⟨m, hm, _⟩ := h.par i n p hi hu
      have hd := h.depth_up hi hu
      rw [e]
      exact ih g p m hm (by omega) (by omega)

theorem WF.root_step (h : T.WF) {i : Nat} {n : Nd} (hi : T.at_ i = some n) :
    T.root i = match n.up with | none => i | some p => T.root p := by
  have h1 := h.depth_le hi
  unfold root
  rw [h.root_enough fuel (fuel + 1) i n hi (by unfold fuel at *; omega) (by unfold fuel at *; omega)]
  show (match T.up i with | none => i | some p => T.rootF fuel p) = _
  simp only [up, hi, Option.bind_some]

theorem WF.kid_depth (h : T.WF) {i k : Nat} {n : Nd} (hi : T.at_ i = some n) (hk : k ∈ n.kids) : ∃ m, T.at_ k = some m ∧ m.up = some i ∧ T.depthF fuel k = T.depthF fuel i + 1 := by
  obtain ⟨m, hm, hu⟩ := h.kid i n k hi hk
  exact ⟨m, hm, hu, h.depth_up hm hu⟩

theorem foldl_congr {α β : Type} (l : List α) (f g : β → α → β) (b : β) (h : ∀ b, ∀ a ∈ l, f b a = g b a) : l.foldl f b = l.foldl g b := by
  induction l generalizing b with
  | nil => rfl
  | cons a l ih =>
    simp only [List.foldl_cons]
    rw [h b a (by simp), ih _ (fun b x hx => h b x (by simp [hx]))]

theorem WF.height_enough (h : T.WF) : ∀ f g i n, T.at_ i = some n → 41 ≤ f + T.depthF fuel i → 41 ≤ g + T.depthF fuel i → T.heightF f i = T.heightF g i := by
  intro f
  induction f with
  | zero => intro g i n hi hf; have := h.depth_le hi; omega
  | succ f ih =>
    intro g i n hi hf hg
    have hd := h.depth_le hi
    obtain ⟨g, rfl⟩ : ∃ k, g = k + 1 := ⟨g - 1, by omega⟩
    unfold heightF
    simp only [hi]
    refine foldl_congr _ _ _ _ fun b k hk => ?_
    obtain ⟨m, hm, _, he⟩ := h.kid_depth hi hk
    rw [ih g k m hm (by omega) (by omega)]

theorem WF.height_step (h : T.WF) {i : Nat} {n : Nd} (hi : T.at_ i = some n) :
    T.heightF fuel i = n.kids.foldl (fun b k => max b (T.heightF fuel k + 1)) 0 := by
  rw [h.height_enough fuel (fuel + 1) i n hi (by unfold fuel at *; omega) (by unfold fuel at *; omega)]
  show (match T.at_ i with | none => 0 | some n => n.kids.foldl (fun b k => max b (T.heightF fuel k + 1)) 0) = _
  simp only [hi]

theorem WF.plain_enough (h : T.WF) : ∀ f g i n, T.at_ i = some n → 41 ≤ f + T.depthF fuel i → 41 ≤ g + T.depthF fuel i → T.plainF f i = T.plainF g i := by
  intro f
  induction f with
  | zero => intro g i n hi hf; have := h.depth_le hi; omega
  | succ f ih =>
    intro g i n hi hf hg
    have hd := h.depth_le hi
    obtain ⟨g, rfl⟩ : ∃ k, g = k + 1 := ⟨g - 1, by omega⟩
    unfold plainF
    simp only [hi]
    congr 1
    refine List.map_congr_left fun k hk => ?_
    obtain ⟨m, hm, _, he⟩ := h.kid_depth hi hk
    exact ih g k m hm (by omega) (by omega)

theorem WF.plain_step (h : T.WF) {i : Nat} {n : Nd} (hi : T.at_ i = some n) :
    T.plainF fuel i = .mk n.tag n.attrs n.text (n.kids.map (T.plainF fuel)) := by
  rw [h.plain_enough fuel (fuel + 1) i n hi (by unfold fuel at *; omega) (by unfold fuel at *; omega)]
  show (match T.at_ i with | none => _ | some n => PNode.mk n.tag n.attrs n.text (n.kids.map (T.plainF fuel))) = _
  simp only [hi]

theorem foldl_max_le (l : List Nat) (f : Nat → Nat) (b c : Nat) (hb : b ≤ c) (h : ∀ k ∈ l, f k ≤ c) : l.foldl (fun b k => max b (f k)) b ≤ c := by
  induction l generalizing b with
  | nil => exact hb
  | cons a l ih =>
    simp only [List.foldl_cons]
    exact ih _ (by have := h a (by simp); omega) (fun k hk => h k (by simp [hk]))
theorem foldl_max_ge (l : List Nat) (f : Nat → Nat) (b : Nat) : b ≤ l.foldl (fun b k => max b (f k)) b := by
  induction l generalizing b with
  | nil => exact Nat.le_refl _
  | cons a l ih =>
    simp only [List.foldl_cons]
    exact Nat.le_trans (by omega) (ih _)
theorem foldl_max_mem (l : List Nat) (f : Nat → Nat) (b k : Nat) (hk : k ∈ l) : f k ≤ l.foldl (fun b k => max b (f k)) b := by
  induction l generalizing b with
  | nil => cases hk
  | cons a l ih =>
    simp only [List.foldl_cons]
    rcases List.mem_cons.1 hk with rfl | hk
    · exact Nat.le_trans (by omega) (foldl_max_ge l f _)
    · exact ih _ hk

/-- Height and depth together stay within the room. -/
theorem WF.height_le (h : T.WF) : ∀ m i n, T.at_ i = some n → T.depthF fuel i + m = T.dep.toNat → T.heightF fuel i ≤ m := by
  intro m
  induction m with
  | zero =>
    intro i n hi hm
    rw [h.height_step hi]
    cases hk : n.kids with
    | nil => simp
    | cons k l =>
      obtain ⟨m, hm', _, he⟩ := h.kid_depth hi (show k ∈ n.kids by simp [hk])
      have := (h.rank_depth k m hm').2.2
      have := h.dep1
      omega
  | succ m ih =>
    intro i n hi hm
    rw [h.height_step hi]
    refine foldl_max_le _ (fun k => T.heightF fuel k + 1) 0 _ (by omega) fun k hk => ?_
    obtain ⟨n', hn', _, he⟩ := h.kid_depth hi hk
    have := ih k n' hn' (by omega)
    show T.heightF fuel k + 1 ≤ m + 1
    omega
theorem WF.height_dep (h : T.WF) {i : Nat} {n : Nd} (hi : T.at_ i = some n) : (T.depthF fuel i : Int) + T.heightF fuel i ≤ T.dep := by
  have h1 := (h.rank_depth i n hi).2.2
  have h2 := h.dep1
  have := h.height_le (T.dep.toNat - T.depthF fuel i) i n hi (by omega)
  omega
end DT
end Go.Proofs.Ytnnjlpkjpbbklaa

-- DomOps: The calls of chapter 8 on the tree as plain data. No program in sight. Conditions: none.
namespace Go.Proofs.Ytnnjlpkjpbbklaa

def elementOk (tag : Int) : Bool := decide (1 ≤ tag) && decide (tag ≤ 16)

namespace DT
def new (cap dep : Int) : DT := ⟨cap, dep, [some ⟨1, [], ByteArray.empty, [], none⟩]⟩
def roomFor (T : DT) (n : Int) : Bool := decide (n ≤ T.cap - (T.count : Int))
def element (T : DT) (tag : Int) (al : List (Bytes × Bytes)) : (Int × Int) × DT :=
  if elementOk tag = false then ((0, 1), T) else if T.roomFor 1 = false then ((0, 3), T) else (((T.slot : Int), 0), T.addAt ⟨tag, al, ByteArray.empty, [], none⟩)
/-- s: written anew. -/
def text (T : DT) (s : Bytes) : (Int × Int) × DT :=
  if 8192 < s.size then ((0, 10), T) else if T.roomFor 1 = false then ((0, 3), T) else (((T.slot : Int), 0), T.addAt ⟨0, [], s, [], none⟩)
def setAttrs (T : DT) (id : Int) (al : List (Bytes × Bytes)) : Int × DT :=
  match T.get id with
  | none => (2, T)
  | some n => if n.tag = 0 then (6, T) else (0, T.put id.toNat (some { n with attrs := al }))
def setText (T : DT) (id : Int) (s : Bytes) : Int × DT :=
  match T.get id with
  | none => (2, T)
  | some n => if n.tag ≠ 0 then (6, T) else if 8192 < s.size then (10, T) else (0, T.put id.toNat (some { n with text := s }))
def setTag (T : DT) (id tag : Int) : Int × DT :=
  match T.get id with
  | none => (2, T)
  | some n => if n.tag = 0 then (6, T) else if elementOk tag = false ∨ id = 0 then (1, T) else (0, T.put id.toNat (some { n with tag := tag }))
end DT
end Go.Proofs.Ytnnjlpkjpbbklaa

-- DomOps2: Insert and Remove of chapter 8 on the tree as plain data. No program in sight. Conditions: none.
namespace Go.Proofs.Ytnnjlpkjpbbklaa
namespace DT
def insertAt (T : DT) (parent at_ kid : Nat) (p k : Nd) : DT :=
  (T.put parent (some { p with kids := p.kids.take at_ ++ (kid :: p.kids.drop at_) })).put kid (some { k with up := some parent })
def insert (T : DT) (parent pos kid : Int) : Int × DT :=
  match T.get parent, T.get kid with
  | some p, some k =>
    if p.tag = 0 then (6, T)
    else if kid = 0 ∨ 0 ≤ upI k.up ∨ pos < 0 ∨ (p.kids.length : Int) < pos then (1, T)
    else if T.within parent.toNat kid.toNat = true then (5, T)
    else if T.dep < T.depth parent + 1 + T.height kid then (4, T)
    else (0, T.insertAt parent.toNat pos.toNat kid.toNat p k)
  | _, _ => (2, T)
def remove (T : DT) (id : Int) : Int × DT :=
  match T.get id with
  | none => (2, T)
  | some n => match n.up with
    | none => (1, T)
    | some up => match T.at_ up with
      | none => (1, T)
      | some p => (0, (T.put up (some { p with kids := p.kids.erase id.toNat })).put id.toNat (some { n with up := none }))
end DT
end Go.Proofs.Ytnnjlpkjpbbklaa

-- DomAnc: The tree as plain data: who is within whom; what a change of a node leaves of it. No program in sight. Conditions: none.
namespace Go.Proofs.Ytnnjlpkjpbbklaa
namespace DT

/-- o is i, or one that i is within. -/
inductive Anc (T : DT) : Nat → Nat → Prop
  | refl (i : Nat) : Anc T i i
  | step {i p o : Nat} {n : Nd} (hi : T.at_ i = some n) (hu : n.up = some p) (h : Anc T p o) : Anc T i o

variable {T : DT}

theorem up_of {i : Nat} {n : Nd} (hi : T.at_ i = some n) : T.up i = n.up := by simp [up, hi]

theorem Anc.trans {a b c : Nat} (h : Anc T a b) (k : Anc T b c) : Anc T a c := by
  induction h with
  | refl => exact k
  | step hi hu _ ih => exact .step hi hu (ih k)
theorem Anc.root {i o : Nat} {n : Nd} (h : Anc T i o) (hi : T.at_ i = some n) (hu : n.up = none) : i = o := by
  cases h with
  | refl => rfl
  | step hi' hu' _ => rw [hi] at hi'; cases hi'; rw [hu] at hu'; cases hu'
theorem Anc.step_inv {i o p : Nat} {n : Nd} (h : Anc T i o) (hi : T.at_ i = some n) (hu : n.up = some p) : i = o ∨ Anc T p o := by
  cases h with
  | refl => exact .inl rfl
  | step hi' hu' h => rw [hi] at hi'; cases hi'; rw [hu] at hu'; cases hu'; exact .inr h
theorem Anc.here {i o : Nat} {n : Nd} (h : Anc T i o) (hW : T.WF) (hi : T.at_ i = some n) : ∃ m, T.at_ o = some m := by
  induction h generalizing n with
  | refl => exact ⟨n, hi⟩
  | step hi' hu' _ ih =>
    obtain ⟨m, hm, _⟩ := hW.par _ _ _ hi' hu'
    exact ih hm

theorem withinF_anc : ∀ (f i o : Nat), T.withinF f i o = true → Anc T i o := by
  intro f
  induction f with
  | zero => intro i o h; simp [withinF] at h; subst h; exact .refl _
  | succ f ih =>
    intro i o h
    unfold withinF at h
    rw [Bool.or_eq_true] at h
    rcases h with h | h
    · have : i = o := by simpa using h
      subst this; exact .refl _
    · cases hi : T.at_ i with
      | none => simp [up, hi] at h
      | some n =>
        rw [up_of hi] at h
        cases hu : n.up with
        | none => rw [hu] at h; cases h
        | some p => rw [hu] at h; exact .step hi hu (ih p o h)
theorem WF.within_anc (hW : T.WF) {i : Nat} {n : Nd} (hi : T.at_ i = some n) (o : Nat) : T.within i o = true ↔ Anc T i o := by
  refine ⟨withinF_anc _ _ _, fun h => ?_⟩
  induction h generalizing n with
  | refl i => rw [hW.within_step hi]; simp
  | step hi' hu' _ ih =>
    obtain ⟨m, hm, _⟩ := hW.par _ _ _ hi' hu'
    rw [hW.within_step hi', hu', Bool.or_eq_true]
    exact .inr (ih hm)
theorem WF.within_not (hW : T.WF) {i : Nat} {n : Nd} (hi : T.at_ i = some n) (o : Nat) : T.within i o = false ↔ ¬ Anc T i o := by
  rw [← hW.within_anc hi]; simp
theorem WF.anc_depth (hW : T.WF) {i o : Nat} {n : Nd} (hi : T.at_ i = some n) (h : Anc T i o) : T.depthF fuel i + T.heightF fuel i ≤ T.depthF fuel o + T.heightF fuel o ∧ T.depthF fuel o ≤ T.depthF fuel i ∧ (T.depthF fuel i = T.depthF fuel o → i = o) := by
  induction h generalizing n with
  | refl => exact ⟨Nat.le_refl _, Nat.le_refl _, fun _ => rfl⟩
  | @step i p o n' hi' hu' _ ih =>
    obtain ⟨m, hm, hk⟩ := hW.par _ _ _ hi' hu'
    obtain ⟨h1, h2, h3⟩ := ih hm
    have hd := hW.depth_up hi' hu'
    have hh := hW.height_step hm
    have := foldl_max_mem m.kids (fun k => T.heightF fuel k + 1) 0 _ hk
    rw [← hh] at this
    exact ⟨by omega, by omega, fun e => by omega⟩
theorem WF.anc_anti (hW : T.WF) {i o : Nat} {n : Nd} (hi : T.at_ i = some n) (h : Anc T i o) (k : Anc T o i) : i = o := by
  obtain ⟨m, hm⟩ := h.here hW hi
  have h1 := hW.anc_depth hi h
  have h2 := hW.anc_depth hm k
  exact h1.2.2 (by omega)
theorem WF.no_loop (hW : T.WF) {i p : Nat} {n : Nd} (hi : T.at_ i = some n) (hu : n.up = some p) : ¬ Anc T p i := by
  intro h
  obtain ⟨m, hm, _⟩ := hW.par _ _ _ hi hu
  have h1 := hW.anc_depth hm h
  have := hW.depth_up hi hu
  omega
theorem WF.up_ne (hW : T.WF) {i p : Nat} {n : Nd} (hi : T.at_ i = some n) (hu : n.up = some p) : p ≠ i := fun e => hW.no_loop hi hu (e ▸ .refl _)
theorem WF.kid_not (hW : T.WF) {i k : Nat} {n m : Nd} (hi : T.at_ i = some n) (hk : k ∉ n.kids) (hm : T.at_ k = some m) : m.up ≠ some i := by
  intro e
  obtain ⟨n', hn', h⟩ := hW.par _ _ _ hm e
  rw [hi] at hn'
  cases hn'
  exact hk h

/-- What plain and height see of a node: not its parent. -/
def _root_.Go.Proofs.Ytnnjlpkjpbbklaa.Nd.low (n : Nd) : Int × List (Bytes × Bytes) × Bytes × List Nat := (n.tag, n.attrs, n.text, n.kids)

theorem plain_congr {T T' : DT} (P : Nat → Prop) (hP : ∀ i, P i → (T.at_ i).map Nd.low = (T'.at_ i).map Nd.low ∧ ∀ n, T.at_ i = some n → ∀ k ∈ n.kids, P k) :
    ∀ f i, P i → T'.plainF f i = T.plainF f i ∧ T'.heightF f i = T.heightF f i := by
  intro f
  induction f with
  | zero => intro i _; exact ⟨rfl, rfl⟩
  | succ f ih =>
    intro i hi
    obtain ⟨h1, h2⟩ := hP i hi
    unfold plainF heightF
    cases hn : T.at_ i with
    | none =>
      rw [hn] at h1
      cases hn' : T'.at_ i with
      | none => exact ⟨rfl, rfl⟩
      | some n' => rw [hn'] at h1; cases h1
    | some n =>
      rw [hn] at h1
      cases hn' : T'.at_ i with
      | none => rw [hn'] at h1; cases h1
      | some n' =>
        rw [hn'] at h1
        simp only [Option.map_some, Option.some.injEq, Nd.low, Prod.mk.injEq] at h1
        obtain ⟨e1, e2, e3, e4⟩ := h1
        dsimp only
        rw [e1, e2, e3, ← e4]
        refine ⟨?_, ?_⟩
        · congr 1
          exact List.map_congr_left fun k hk => (ih k (h2 n hn k hk)).1
        · exact foldl_congr _ _ _ _ fun b k hk => by rw [(ih k (h2 n hn k hk)).2]

/-- Nodes that are not within kid are as they were: so is what plain and height tell of a node that kid is not within. -/
theorem WF.plain_apart (hW : T.WF) {T' : DT} {o : Nat} (ho : ∀ i n, T.at_ i = some n → ¬ Anc T o i → (T'.at_ i).map Nd.low = some n.low) :
    ∀ f i, (∃ n, T.at_ i = some n) → ¬ Anc T o i → T'.plainF f i = T.plainF f i ∧ T'.heightF f i = T.heightF f i := by
  intro f i hi hn
  refine plain_congr (T := T) (T' := T') (fun i => (∃ n, T.at_ i = some n) ∧ ¬ Anc T o i) (fun j hj => ?_) f i ⟨hi, hn⟩
  obtain ⟨⟨n, hj⟩, h⟩ := hj
  refine ⟨by rw [hj, ho j n hj h]; rfl, fun n' hn' k hk => ?_⟩
  rw [hj] at hn'; cases hn'
  obtain ⟨m, hm, hu⟩ := hW.kid _ _ _ hj hk
  exact ⟨⟨m, hm⟩, fun hx => h (hx.trans (.step hm hu (.refl _)))⟩
end DT
end Go.Proofs.Ytnnjlpkjpbbklaa

-- DomWF: The tree as plain data: the calls of chapter 8 leave it sound. No program in sight. Conditions: none.
namespace Go.Proofs.Ytnnjlpkjpbbklaa
namespace DT
variable {T : DT}

theorem at_put' (T : DT) (i j : Nat) (x : Option Nd) (hi : i < T.nodes.length) : (T.put i x).at_ j = if j = i then x else T.at_ j := by
  unfold at_ put
  simp only [List.getElem?_set]
  by_cases h : i = j
  · subst h; simp [hi]
  · have h' : ¬ j = i := fun e => h e.symm
    simp [h, h']
theorem at_put_same {i : Nat} {n : Nd} (h : T.at_ i = some n) (x : Option Nd) : (T.put i x).at_ i = x := by rw [at_put' T i i x (at_lt h), if_pos rfl]
theorem at_put_ne {i j : Nat} (x : Option Nd) (h : j ≠ i) : (T.put i x).at_ j = T.at_ j := by
  by_cases hi : i < T.nodes.length
  · rw [at_put' T i j x hi, if_neg h]
  · unfold at_ put
    rw [List.set_eq_of_length_le (by omega)]

/-- A sound tree, made anew out of what its nodes are. -/
theorem WF.of_at {T T' : DT} (hW : T.WF) (hc : T'.cap = T.cap) (hd : T'.dep = T.dep) (hl : (T'.nodes.length : Int) ≤ T.cap)
    (host : ∃ n, T'.at_ 0 = some n ∧ n.tag = 1 ∧ n.up = none)
    (kid : ∀ i n k, T'.at_ i = some n → k ∈ n.kids → ∃ m, T'.at_ k = some m ∧ m.up = some i)
    (par : ∀ i n p, T'.at_ i = some n → n.up = some p → ∃ m, T'.at_ p = some m ∧ i ∈ m.kids)
    (node : ∀ i n, T'.at_ i = some n → n.kids.Nodup ∧ (n.tag = 0 → n.kids = []) ∧ 0 ≤ n.tag ∧ n.tag ≤ 16 ∧ n.text.size ≤ 8192)
    (rank : ∃ d : Nat → Nat, ∀ i n, T'.at_ i = some n → (n.up = none → d i = 0) ∧ (∀ p, n.up = some p → d i = d p + 1) ∧ (d i : Int) ≤ T.dep) : T'.WF where
  cap1 := by rw [hc]; exact hW.cap1
  cap2 := by rw [hc]; exact hW.cap2
  dep1 := by rw [hd]; exact hW.dep1
  dep2 := by rw [hd]; exact hW.dep2
  len := by rw [hc]; exact hl
  host := host
  kid := kid
  par := par
  nodup := fun i n h => (node i n h).1
  leaf := fun i n h => (node i n h).2.1
  tags := fun i n h => ⟨(node i n h).2.2.1, (node i n h).2.2.2.1⟩
  txt := fun i n h => (node i n h).2.2.2.2
  rank := by rw [hd]; exact rank

theorem WF.node_ok (hW : T.WF) {i : Nat} {n : Nd} (h : T.at_ i = some n) : n.kids.Nodup ∧ (n.tag = 0 → n.kids = []) ∧ 0 ≤ n.tag ∧ n.tag ≤ 16 ∧ n.text.size ≤ 8192 :=
  ⟨hW.nodup i n h, hW.leaf i n h, (hW.tags i n h).1, (hW.tags i n h).2, hW.txt i n h⟩
theorem WF.ranks (hW : T.WF) : ∀ i n, T.at_ i = some n → (n.up = none → T.depthF fuel i = 0) ∧ (∀ p, n.up = some p → T.depthF fuel i = T.depthF fuel p + 1) ∧ (T.depthF fuel i : Int) ≤ T.dep := hW.rank_depth

/-- One node's own cells are others; its kids and its parent are the same. -/
theorem WF.own (hW : T.WF) {i : Nat} {n n' : Nd} (hi : T.at_ i = some n) (hk : n'.kids = n.kids) (hu : n'.up = n.up) (ht : n'.tag = 0 → n.kids = []) (h0 : 0 ≤ n'.tag ∧ n'.tag ≤ 16) (hx : n'.text.size ≤ 8192) (hh : i = 0 → n'.tag = 1) : (T.put i (some n')).WF := by
  have hsome : ∀ j m, (T.put i (some n')).at_ j = some m → ∃ m0, T.at_ j = some m0 ∧ m0.kids = m.kids ∧ m0.up = m.up := by
    intro j m hm
    by_cases hj : j = i
    · subst hj; rw [at_put_same hi] at hm; cases hm; exact ⟨n, hi, hk.symm, hu.symm⟩
    · rw [at_put_ne _ hj] at hm; exact ⟨m, hm, rfl, rfl⟩
  have hback : ∀ j m0, T.at_ j = some m0 → ∃ m, (T.put i (some n')).at_ j = some m ∧ m.kids = m0.kids ∧ m.up = m0.up := by
    intro j m0 hm
    by_cases hj : j = i
    · subst hj; rw [hi] at hm; cases hm; exact ⟨n', at_put_same hi _, hk, hu⟩
    · exact ⟨m0, by rw [at_put_ne _ hj]; exact hm, rfl, rfl⟩
  refine hW.of_at rfl rfl (by show ((T.nodes.set i _).length : Int) ≤ _; rw [List.length_set]; exact hW.len) ?_ ?_ ?_ ?_ ⟨T.depthF fuel, ?_⟩
  · obtain ⟨m, hm, h1, h2⟩ := hW.host
    by_cases h : 0 = i
    · subst h; rw [hi] at hm; cases hm; exact ⟨n', at_put_same hi _, hh rfl, hu.trans h2⟩
    · exact ⟨m, by rw [at_put_ne _ h]; exact hm, h1, h2⟩
  · intro j m k hj hkm
    obtain ⟨m0, hm0, e1, e2⟩ := hsome j m hj
    obtain ⟨q, hq, hqu⟩ := hW.kid j m0 k hm0 (by rw [e1]; exact hkm)
    obtain ⟨q', hq', _, e4⟩ := hback k q hq
    exact ⟨q', hq', e4.trans hqu⟩
  · intro j m p hj hp
    obtain ⟨m0, hm0, e1, e2⟩ := hsome j m hj
    obtain ⟨q, hq, hqk⟩ := hW.par j m0 p hm0 (e2.trans hp)
    obtain ⟨q', hq', e3, _⟩ := hback p q hq
    exact ⟨q', hq', by rw [e3]; exact hqk⟩
  · intro j m hj
    by_cases h : j = i
    · subst h; rw [at_put_same hi] at hj; cases hj
      exact ⟨by rw [hk]; exact hW.nodup _ _ hi, fun e => by rw [hk]; exact ht e, h0.1, h0.2, hx⟩
    · rw [at_put_ne _ h] at hj; exact hW.node_ok hj
  · intro j m hj
    obtain ⟨m0, hm0, e1, e2⟩ := hsome j m hj
    obtain ⟨h1, h2, h3⟩ := hW.ranks j m0 hm0
    exact ⟨fun e => h1 (e2.trans e), fun p e => h2 p (e2.trans e), h3⟩

theorem WF.setAttrs (hW : T.WF) (id : Int) (al : List (Bytes × Bytes)) : (T.setAttrs id al).2.WF := by
  unfold DT.setAttrs
  cases hn : T.get id with
  | none => exact hW
  | some n =>
    obtain ⟨_, h1, _⟩ := get_some hn
    dsimp only
    split
    · exact hW
    · refine hW.own h1 rfl rfl (fun e => hW.leaf _ _ h1 e) (hW.tags _ n h1) (hW.txt _ n h1) fun e => ?_
      obtain ⟨m, hm, h2, _⟩ := hW.host
      rw [e, hm] at h1; cases h1; exact h2
theorem WF.setText (hW : T.WF) (id : Int) (s : Bytes) : (T.setText id s).2.WF := by
  unfold DT.setText
  cases hn : T.get id with
  | none => exact hW
  | some n =>
    obtain ⟨_, h1, _⟩ := get_some hn
    dsimp only
    split
    · exact hW
    · split
      · exact hW
      · refine hW.own h1 rfl rfl (fun e => hW.leaf _ _ h1 e) (hW.tags _ n h1) (show s.size ≤ 8192 by omega) fun e => ?_
        obtain ⟨m, hm, h2, _⟩ := hW.host
        rw [e, hm] at h1; cases h1; exact h2
theorem elementOk_iff {tag : Int} : elementOk tag = true ↔ 1 ≤ tag ∧ tag ≤ 16 := by simp [elementOk]
theorem WF.setTag (hW : T.WF) (id tag : Int) : (T.setTag id tag).2.WF := by
  unfold DT.setTag
  cases hn : T.get id with
  | none => exact hW
  | some n =>
    obtain ⟨h0, h1, h2⟩ := get_some hn
    dsimp only
    split
    · exact hW
    · split
      · exact hW
      · rename_i h3 h4
        simp only [not_or, Bool.not_eq_false, elementOk_iff] at h4
        exact hW.own h1 rfl rfl (fun e => by have : tag = 0 := e; omega) ⟨show (0 : Int) ≤ tag by omega, h4.1.2⟩ (hW.txt _ n h1) fun e => by omega

theorem slot_le : T.slot ≤ T.nodes.length := List.findIdx_le_length
theorem slot_none : T.at_ T.slot = none := by
  unfold at_
  by_cases h : T.slot < T.nodes.length
  · have := List.findIdx_getElem (xs := T.nodes) (p := Option.isNone) (w := h)
    rw [List.getElem?_eq_getElem h]
    exact Option.isNone_iff_eq_none.1 this
  · rw [List.getElem?_eq_none (by omega)]; rfl
theorem at_addAt (n : Nd) (j : Nat) : (T.addAt n).at_ j = if j = T.slot then some n else T.at_ j := by
  unfold addAt
  split
  · rename_i h; rw [at_put' T T.slot j _ h]
  · rename_i h
    have hs : T.slot = T.nodes.length := by have := slot_le (T := T); omega
    rw [hs]
    unfold at_
    simp only [List.getElem?_append]
    by_cases hj : j < T.nodes.length
    · rw [if_pos hj, if_neg (by omega)]
    · rw [if_neg hj]
      by_cases e : j = T.nodes.length
      · subst e; simp
      · rw [if_neg e, List.getElem?_eq_none (by simp; omega), List.getElem?_eq_none (by omega)]
theorem addAt_cap (n : Nd) : (T.addAt n).cap = T.cap := by unfold addAt; split <;> rfl
theorem addAt_dep (n : Nd) : (T.addAt n).dep = T.dep := by unfold addAt; split <;> rfl
theorem count_addAt (n : Nd) : (T.addAt n).count = T.count + 1 := by
  unfold addAt
  split
  · rename_i h
    have h0 := slot_none (T := T)
    unfold count DT.put
    have hg : T.nodes[T.slot]? = some none := by
      unfold at_ at h0
      rw [List.getElem?_eq_getElem h] at h0 ⊢
      simpa using h0
    rw [List.countP_set (h := h)]
    simp only [List.getElem?_eq_getElem h, Option.some.injEq] at hg
    simp [hg]
  · unfold count; simp
theorem count_full (h : ¬ T.slot < T.nodes.length) : T.count = T.nodes.length := by
  unfold count
  rw [List.countP_eq_length]
  intro x hx
  cases x with
  | some _ => rfl
  | none => exact absurd (List.findIdx_lt_length_of_exists ⟨none, hx, rfl⟩) h
theorem addAt_len (h : T.roomFor 1 = true) (hW : T.WF) (n : Nd) : ((T.addAt n).nodes.length : Int) ≤ T.cap := by
  have := hW.len
  unfold addAt
  split
  · show ((T.nodes.set _ _).length : Int) ≤ _
    rw [List.length_set]; exact this
  · rename_i hs
    have := count_full hs
    simp only [roomFor, decide_eq_true_eq] at h
    simp only [List.length_append, List.length_cons, List.length_nil]
    omega
theorem slot_pos (hW : T.WF) : T.slot ≠ 0 := by
  intro e
  obtain ⟨m, hm, _⟩ := hW.host
  have := slot_none (T := T)
  rw [e, hm] at this
  cases this

/-- A loose node more. -/
theorem WF.addAt (hW : T.WF) {n : Nd} (hr : T.roomFor 1 = true) (hk : n.kids = []) (hu : n.up = none) (ht : 0 ≤ n.tag ∧ n.tag ≤ 16) (hx : n.text.size ≤ 8192) : (T.addAt n).WF := by
  have h0 := slot_pos hW
  have hno := slot_none (T := T)
  have hne : ∀ j m, T.at_ j = some m → j ≠ T.slot := fun j m hj e => by rw [e, hno] at hj; cases hj
  refine hW.of_at (addAt_cap n) (addAt_dep n) (addAt_len hr hW n) ?_ ?_ ?_ ?_ ⟨fun j => if j = T.slot then 0 else T.depthF fuel j, ?_⟩
  · obtain ⟨m, hm, h1, h2⟩ := hW.host
    exact ⟨m, by rw [at_addAt, if_neg (fun e => h0 e.symm)]; exact hm, h1, h2⟩
  · intro j m k hj hkm
    rw [at_addAt] at hj
    split at hj
    · cases hj; rw [hk] at hkm; cases hkm
    · obtain ⟨q, hq, hqu⟩ := hW.kid j m k hj hkm
      exact ⟨q, by rw [at_addAt, if_neg (hne _ _ hq)]; exact hq, hqu⟩
  · intro j m p hj hp
    rw [at_addAt] at hj
    split at hj
    · cases hj; rw [hu] at hp; cases hp
    · obtain ⟨q, hq, hqk⟩ := hW.par j m p hj hp
      exact ⟨q, by rw [at_addAt, if_neg (hne _ _ hq)]; exact hq, hqk⟩
  · intro j m hj
    rw [at_addAt] at hj
    split at hj
    · cases hj; rw [hk]; exact ⟨List.nodup_nil, fun _ => rfl, ht.1, ht.2, hx⟩
    · exact hW.node_ok hj
  · intro j m hj
    rw [at_addAt] at hj
    split at hj
    · cases hj
      rename_i e
      refine ⟨fun _ => by simp [e], fun p hp => (by rw [hu] at hp; cases hp), ?_⟩
      simp only [e, if_pos]; exact hW.dep1
    · rename_i e
      obtain ⟨h1, h2, h3⟩ := hW.ranks j m hj
      refine ⟨fun hu => by simp only [if_neg e]; exact h1 hu, fun p hp => ?_, by simp only [if_neg e]; exact h3⟩
      obtain ⟨q, hq, _⟩ := hW.par j m p hj hp
      simp only [if_neg e, if_neg (hne _ _ hq)]
      exact h2 p hp

theorem WF.element (hW : T.WF) (tag : Int) (al : List (Bytes × Bytes)) : (T.element tag al).2.WF := by
  unfold DT.element
  split
  · exact hW
  · split
    · exact hW
    · rename_i h1 h2
      simp only [Bool.not_eq_false, elementOk_iff] at h1 h2
      exact hW.addAt h2 rfl rfl ⟨show (0 : Int) ≤ tag by omega, h1.2⟩ (show ByteArray.empty.size ≤ 8192 by decide)
theorem WF.text (hW : T.WF) (s : Bytes) : (T.text s).2.WF := by
  unfold DT.text
  split
  · exact hW
  · split
    · exact hW
    · rename_i h1 h2
      simp only [Bool.not_eq_false] at h2
      exact hW.addAt h2 rfl rfl ⟨show (0 : Int) ≤ 0 by decide, show (0 : Int) ≤ 16 by decide⟩ (show s.size ≤ 8192 by omega)

theorem new_wf {cap dep : Int} (h1 : 1 ≤ cap) (h2 : cap ≤ 2000) (h3 : 0 ≤ dep) (h4 : dep ≤ 40) : (DT.new cap dep).WF where
  cap1 := h1
  cap2 := h2
  dep1 := h3
  dep2 := h4
  len := by simpa [DT.new] using h1
  host := ⟨_, rfl, rfl, rfl⟩
  kid := fun i n k h hk => by
    cases i with
    | zero => simp [DT.new, at_] at h; subst h; cases hk
    | succ i => simp [DT.new, at_] at h
  par := fun i n p h hk => by
    cases i with
    | zero => simp [DT.new, at_] at h; subst h; cases hk
    | succ i => simp [DT.new, at_] at h
  nodup := fun i n h => by
    cases i with
    | zero => simp [DT.new, at_] at h; subst h; exact List.nodup_nil
    | succ i => simp [DT.new, at_] at h
  leaf := fun i n h _ => by
    cases i with
    | zero => simp [DT.new, at_] at h; subst h; rfl
    | succ i => simp [DT.new, at_] at h
  tags := fun i n h => by
    cases i with
    | zero => simp [DT.new, at_] at h; subst h; exact ⟨by decide, by decide⟩
    | succ i => simp [DT.new, at_] at h
  txt := fun i n h => by
    cases i with
    | zero => simp [DT.new, at_] at h; subst h; decide
    | succ i => simp [DT.new, at_] at h
  rank := ⟨fun _ => 0, fun i n h => by
    cases i with
    | zero => simp [DT.new, at_] at h; subst h; exact ⟨fun _ => rfl, fun p hp => (by cases hp), by simpa [DT.new] using h3⟩
    | succ i => simp [DT.new, at_] at h⟩
end DT
end Go.Proofs.Ytnnjlpkjpbbklaa

-- DomWF2: The tree as plain data: Insert, Remove, Drop leave it sound; what they leave of it. No program in sight. Conditions: none.
namespace Go.Proofs.Ytnnjlpkjpbbklaa
namespace DT
variable {T : DT}

theorem put_nodes_length (T : DT) (i : Nat) (x : Option Nd) : (T.put i x).nodes.length = T.nodes.length := by show (T.nodes.set i x).length = _; rw [List.length_set]

theorem at_insertAt {parent a kid : Nat} {p k : Nd} (hp : T.at_ parent = some p) (hk : T.at_ kid = some k) (j : Nat) :
    (T.insertAt parent a kid p k).at_ j = if j = kid then some { k with up := some parent } else if j = parent then some { p with kids := p.kids.take a ++ (kid :: p.kids.drop a) } else T.at_ j := by
  unfold insertAt
  rw [at_put' _ kid j _ (by rw [put_nodes_length]; exact at_lt hk), at_put' _ parent j _ (at_lt hp)]

theorem mem_ins {l : List Nat} {a x k : Nat} : x ∈ l.take a ++ (k :: l.drop a) ↔ x = k ∨ x ∈ l := by
  rw [List.mem_append, List.mem_cons]
  have : x ∈ l ↔ x ∈ l.take a ∨ x ∈ l.drop a := by rw [← List.mem_append, List.take_append_drop]
  rw [this]
  constructor
  · rintro (h | h | h)
    · exact .inr (.inl h)
    · exact .inl h
    · exact .inr (.inr h)
  · rintro (h | h | h)
    · exact .inr (.inl h)
    · exact .inl h
    · exact .inr (.inr h)

theorem nodup_ins {l : List Nat} {a k : Nat} (h : l.Nodup) (hk : k ∉ l) : (l.take a ++ (k :: l.drop a)).Nodup := by
  have h' : (l.take a ++ l.drop a).Nodup := by rw [List.take_append_drop]; exact h
  rw [List.nodup_append] at h' ⊢
  have hk1 : k ∉ l.take a := fun e => hk (List.mem_of_mem_take e)
  have hk2 : k ∉ l.drop a := fun e => hk (List.mem_of_mem_drop e)
  refine ⟨h'.1, List.nodup_cons.2 ⟨hk2, h'.2.1⟩, fun x hx y hy e => ?_⟩
  subst e
  rcases List.mem_cons.1 hy with rfl | hy
  · exact hk1 hx
  · exact h'.2.2 x hx x hy rfl

/-- A loose node is another one's kid. -/
theorem WF.insertAt (hW : T.WF) {parent a kid : Nat} {p k : Nd} (hp : T.at_ parent = some p) (hk : T.at_ kid = some k) (ht : p.tag ≠ 0) (h0 : kid ≠ 0) (hu : k.up = none) (hn : ¬ Anc T parent kid)
    (hd : (T.depthF fuel parent : Int) + 1 + T.heightF fuel kid ≤ T.dep) : (T.insertAt parent a kid p k).WF := by
  have hne : parent ≠ kid := fun e => hn (e ▸ .refl _)
  have hkp : kid ∉ p.kids := fun h => by
    obtain ⟨m, hm, e⟩ := hW.kid _ _ _ hp h
    rw [hk] at hm; cases hm; rw [hu] at e; cases e
  have hsome : ∀ j m, (T.insertAt parent a kid p k).at_ j = some m → ∃ m0, T.at_ j = some m0 ∧ (j = kid ∧ m0.up = none ∧ m.up = some parent ∨ j ≠ kid ∧ m.up = m0.up) ∧ (j = parent ∧ m.kids = m0.kids.take a ++ (kid :: m0.kids.drop a) ∨ j ≠ parent ∧ m.kids = m0.kids) ∧ m.tag = m0.tag ∧ m.text = m0.text := by
    intro j m hj
    rw [at_insertAt hp hk] at hj
    split at hj
    · rename_i e; subst e; cases hj; exact ⟨k, hk, .inl ⟨rfl, hu, rfl⟩, .inr ⟨fun e => hne e.symm, rfl⟩, rfl, rfl⟩
    · rename_i e
      split at hj
      · rename_i e'; subst e'; cases hj; exact ⟨p, hp, .inr ⟨e, rfl⟩, .inl ⟨rfl, rfl⟩, rfl, rfl⟩
      · rename_i e'; exact ⟨m, hj, .inr ⟨e, rfl⟩, .inr ⟨e', rfl⟩, rfl, rfl⟩
  have hback : ∀ j m0, T.at_ j = some m0 → ∃ m, (T.insertAt parent a kid p k).at_ j = some m ∧ (j = kid ∧ m.up = some parent ∨ j ≠ kid ∧ m.up = m0.up) ∧ (∀ x, x ∈ m0.kids → x ∈ m.kids) ∧ (j = parent → kid ∈ m.kids) ∧ m.tag = m0.tag := by
    intro j m0 hj
    rw [at_insertAt hp hk]
    by_cases e : j = kid
    · subst e; rw [if_pos rfl]; rw [hk] at hj; cases hj; exact ⟨_, rfl, .inl ⟨rfl, rfl⟩, fun _ h => h, fun e => absurd e.symm hne, rfl⟩
    · rw [if_neg e]
      by_cases e' : j = parent
      · subst e'; rw [if_pos rfl]; rw [hp] at hj; cases hj
        exact ⟨_, rfl, .inr ⟨e, rfl⟩, fun x h => mem_ins.2 (.inr h), fun _ => mem_ins.2 (.inl rfl), rfl⟩
      · rw [if_neg e']; exact ⟨m0, hj, .inr ⟨e, rfl⟩, fun _ h => h, fun h => absurd h e', rfl⟩
  refine hW.of_at rfl rfl (by unfold DT.insertAt; rw [put_nodes_length, put_nodes_length]; exact hW.len) ?_ ?_ ?_ ?_ ?_
  · obtain ⟨m, hm, h1, h2⟩ := hW.host
    obtain ⟨m', hm', h3, _, _, h4⟩ := hback 0 m hm
    refine ⟨m', hm', h4.trans h1, ?_⟩
    rcases h3 with ⟨e, _⟩ | ⟨_, e⟩
    · exact absurd e.symm h0
    · exact e.trans h2
  · intro j m x hj hx
    obtain ⟨m0, hm0, h1, h2, _⟩ := hsome j m hj
    have hx' : x = kid ∧ j = parent ∨ x ∈ m0.kids := by
      rcases h2 with ⟨e, e'⟩ | ⟨_, e'⟩
      · rw [e', mem_ins] at hx
        rcases hx with hx | hx
        · exact .inl ⟨hx, e⟩
        · exact .inr hx
      · rw [e'] at hx; exact .inr hx
    rcases hx' with ⟨rfl, rfl⟩ | hx
    · obtain ⟨m', hm', h3, _⟩ := hback _ _ hk
      refine ⟨m', hm', ?_⟩
      rcases h3 with ⟨_, e⟩ | ⟨e, _⟩
      · exact e
      · exact absurd rfl e
    · obtain ⟨q, hq, hqu⟩ := hW.kid _ _ _ hm0 hx
      obtain ⟨q', hq', h3, _⟩ := hback _ _ hq
      refine ⟨q', hq', ?_⟩
      rcases h3 with ⟨e, _⟩ | ⟨_, e⟩
      · subst e; rw [hk] at hq; cases hq; rw [hu] at hqu; cases hqu
      · exact e.trans hqu
  · intro j m q hj hq
    obtain ⟨m0, hm0, h1, h2, _⟩ := hsome j m hj
    rcases h1 with ⟨rfl, _, e⟩ | ⟨_, e⟩
    · rw [e] at hq; cases hq
      obtain ⟨m', hm', _, _, h3, _⟩ := hback _ _ hp
      exact ⟨m', hm', h3 rfl⟩
    · obtain ⟨n, hn1, hn2⟩ := hW.par _ _ _ hm0 (e.symm.trans hq)
      obtain ⟨m', hm', _, h3, _⟩ := hback _ _ hn1
      exact ⟨m', hm', h3 _ hn2⟩
  · intro j m hj
    obtain ⟨m0, hm0, h1, h2, e3, e4⟩ := hsome j m hj
    obtain ⟨a1, a2, a3, a4, a5⟩ := hW.node_ok hm0
    rw [e3, e4]
    rcases h2 with ⟨rfl, e⟩ | ⟨_, e⟩
    · rw [hp] at hm0; cases hm0
      rw [e]
      exact ⟨nodup_ins a1 hkp, fun e => absurd e ht, a3, a4, a5⟩
    · rw [e]; exact ⟨a1, a2, a3, a4, a5⟩
  · have hpd := hW.ranks parent p hp
    have hkd := hW.depth_root hk hu
    classical
    refine ⟨fun j => if Anc T j kid then T.depthF fuel j + T.depthF fuel parent + 1 else T.depthF fuel j, fun j m hj => ?_⟩
    obtain ⟨m0, hm0, h1, h2, _⟩ := hsome j m hj
    obtain ⟨r1, r2, r3⟩ := hW.ranks _ _ hm0
    refine ⟨fun e => ?_, fun q hq => ?_, ?_⟩
    · rcases h1 with ⟨_, _, e'⟩ | ⟨e1, e'⟩
      · rw [e'] at e; cases e
      · have hnu := e'.symm.trans e
        have hna : ¬ Anc T j kid := fun h => e1 (h.root hm0 hnu)
        simp only [if_neg hna]
        exact r1 hnu
    · rcases h1 with ⟨rfl, _, e'⟩ | ⟨e1, e'⟩
      · rw [e'] at hq; cases hq
        simp only [if_neg hn, if_pos (Anc.refl _)]
        omega
      · have hnq := e'.symm.trans hq
        have h3 := r2 q hnq
        by_cases hna : Anc T j kid
        · have hqa : Anc T q kid := by
            rcases hna.step_inv hm0 hnq with e | h
            · exact absurd e e1
            · exact h
          simp only [if_pos hna, if_pos hqa]
          omega
        · have hqa : ¬ Anc T q kid := fun h => hna (.step hm0 hnq h)
          simp only [if_neg hna, if_neg hqa]
          exact h3
    · by_cases hna : Anc T j kid
      · simp only [if_pos hna]
        have := (hW.anc_depth hm0 hna).1
        omega
      · simp only [if_neg hna]; exact r3

theorem insert_ok {parent pos kid : Int} (h : (T.insert parent pos kid).1 = 0) :
    ∃ p k, T.get parent = some p ∧ T.get kid = some k ∧ p.tag ≠ 0 ∧ kid ≠ 0 ∧ k.up = none ∧ 0 ≤ pos ∧ pos ≤ p.kids.length ∧ T.within parent.toNat kid.toNat = false ∧ T.depth parent + 1 + T.height kid ≤ T.dep ∧
      T.insert parent pos kid = (0, T.insertAt parent.toNat pos.toNat kid.toNat p k) := by
  unfold insert at h ⊢
  split at h
  · rename_i p k hp hk
    split at h
    · cases h
    · split at h
      · cases h
      · split at h
        · cases h
        · split at h
          · cases h
          · rename_i h1 h2 h3 h4
            simp only [not_or] at h2
            refine ⟨p, k, hp, hk, h1, h2.1, ?_, by omega, by omega, by simpa using h3, by omega, ?_⟩
            · cases hu : k.up with
              | none => rfl
              | some q => rw [hu] at h2; simp only [upI] at h2; omega
            · rw [if_neg h1, if_neg (by simp only [not_or]; exact h2), if_neg h3, if_neg h4]
  · cases h
theorem insert_no {parent pos kid : Int} (h : (T.insert parent pos kid).1 ≠ 0) : (T.insert parent pos kid).2 = T := by
  unfold insert at h ⊢
  split
  · rename_i p k hp hk
    rw [hp, hk] at h
    dsimp only at h
    split
    · rfl
    · split
      · rfl
      · split
        · rfl
        · split
          · rfl
          · rename_i h1 h2 h3 h4
            rw [if_neg h1, if_neg h2, if_neg h3, if_neg h4] at h
            exact absurd rfl h
  · rfl

theorem depth_has {id : Int} {n : Nd} (h : T.get id = some n) : T.depth id = (T.depthF fuel id.toNat : Int) := by unfold depth has; rw [h]; rfl
theorem height_has {id : Int} {n : Nd} (h : T.get id = some n) : T.height id = (T.heightF fuel id.toNat : Int) := by unfold height has; rw [h]; rfl
theorem plain_has {id : Int} {n : Nd} (h : T.get id = some n) : T.plain id = T.plainF fuel id.toNat := by unfold plain has; rw [h]; rfl

theorem WF.insert (hW : T.WF) (parent pos kid : Int) : (T.insert parent pos kid).2.WF := by
  by_cases h : (T.insert parent pos kid).1 = 0
  · obtain ⟨p, k, hp, hk, h1, h2, h3, h4, h5, h6, h7, h8⟩ := insert_ok h
    rw [h8]
    rw [depth_has hp, height_has hk] at h7
    obtain ⟨_, hp', _⟩ := get_some hp
    obtain ⟨_, hk', _⟩ := get_some hk
    exact hW.insertAt hp' hk' h1 (by omega) h3 ((hW.within_not hp' _).1 h6) h7
  · rw [insert_no h]; exact hW

/-- remove, opened: of a node that has a parent. -/
def removeAt (T : DT) (id up : Nat) (n p : Nd) : DT := (T.put up (some { p with kids := p.kids.erase id })).put id (some { n with up := none })
theorem at_removeAt {id up : Nat} {n p : Nd} (hn : T.at_ id = some n) (hp : T.at_ up = some p) (j : Nat) :
    (T.removeAt id up n p).at_ j = if j = id then some { n with up := none } else if j = up then some { p with kids := p.kids.erase id } else T.at_ j := by
  unfold removeAt
  rw [at_put' _ id j _ (by rw [put_nodes_length]; exact at_lt hn), at_put' _ up j _ (at_lt hp)]

theorem remove_cases (hW : T.WF) (id : Int) : (T.get id = none ∧ T.remove id = (2, T)) ∨ (∃ n, T.get id = some n ∧ n.up = none ∧ T.remove id = (1, T)) ∨
    ∃ n up p, T.get id = some n ∧ n.up = some up ∧ T.at_ up = some p ∧ id.toNat ∈ p.kids ∧ T.remove id = (0, T.removeAt id.toNat up n p) := by
  unfold remove
  cases hn : T.get id with
  | none => exact .inl ⟨rfl, rfl⟩
  | some n =>
    right
    cases hu : n.up with
    | none => exact .inl ⟨n, rfl, hu, by simp only [hu]⟩
    | some up =>
      obtain ⟨_, h1, _⟩ := get_some hn
      obtain ⟨p, hp, hm⟩ := hW.par _ _ _ h1 hu
      exact .inr ⟨n, up, p, rfl, hu, hp, hm, by simp only [hu, hp]; rfl⟩

/-- A kid is loose. -/
theorem WF.removeAt (hW : T.WF) {id up : Nat} {n p : Nd} (hn : T.at_ id = some n) (hu : n.up = some up) (hp : T.at_ up = some p) : (T.removeAt id up n p).WF := by
  have hne : up ≠ id := hW.up_ne hn hu
  have hnd := hW.nodup _ _ hp
  have hsome : ∀ j m, (T.removeAt id up n p).at_ j = some m → ∃ m0, T.at_ j = some m0 ∧ (j = id ∧ m.up = none ∨ j ≠ id ∧ m.up = m0.up) ∧ (j = up ∧ m.kids = m0.kids.erase id ∨ j ≠ up ∧ m.kids = m0.kids) ∧ m.tag = m0.tag ∧ m.text = m0.text := by
    intro j m hj
    rw [at_removeAt hn hp] at hj
    split at hj
    · rename_i e; subst e; cases hj; exact ⟨n, hn, .inl ⟨rfl, rfl⟩, .inr ⟨fun e => hne e.symm, rfl⟩, rfl, rfl⟩
    · rename_i e
      split at hj
      · rename_i e'; subst e'; cases hj; exact ⟨p, hp, .inr ⟨e, rfl⟩, .inl ⟨rfl, rfl⟩, rfl, rfl⟩
      · rename_i e'; exact ⟨m, hj, .inr ⟨e, rfl⟩, .inr ⟨e', rfl⟩, rfl, rfl⟩
  have hback : ∀ j m0, T.at_ j = some m0 → ∃ m, (T.removeAt id up n p).at_ j = some m ∧ (j = id ∧ m.up = none ∨ j ≠ id ∧ m.up = m0.up) ∧ (∀ x, x ≠ id → x ∈ m0.kids → x ∈ m.kids) ∧ m.tag = m0.tag := by
    intro j m0 hj
    rw [at_removeAt hn hp]
    by_cases e : j = id
    · subst e; rw [if_pos rfl]; rw [hn] at hj; cases hj; exact ⟨_, rfl, .inl ⟨rfl, rfl⟩, fun _ _ h => h, rfl⟩
    · rw [if_neg e]
      by_cases e' : j = up
      · subst e'; rw [if_pos rfl]; rw [hp] at hj; cases hj
        exact ⟨_, rfl, .inr ⟨e, rfl⟩, fun x hx h => (List.mem_erase_of_ne hx).2 h, rfl⟩
      · rw [if_neg e']; exact ⟨m0, hj, .inr ⟨e, rfl⟩, fun _ _ h => h, rfl⟩
  have hkid : ∀ j m0 x, T.at_ j = some m0 → x ∈ m0.kids → x = id → j = up := by
    intro j m0 x hj hx e
    subst e
    obtain ⟨q, hq, e⟩ := hW.kid _ _ _ hj hx
    rw [hn] at hq; cases hq; rw [hu] at e; exact (Option.some.inj e).symm
  refine hW.of_at rfl rfl (by unfold DT.removeAt; rw [put_nodes_length, put_nodes_length]; exact hW.len) ?_ ?_ ?_ ?_ ?_
  · obtain ⟨m, hm, h1, h2⟩ := hW.host
    obtain ⟨m', hm', h3, _, h4⟩ := hback 0 m hm
    refine ⟨m', hm', h4.trans h1, ?_⟩
    rcases h3 with ⟨_, e⟩ | ⟨_, e⟩
    · exact e
    · exact e.trans h2
  · intro j m x hj hx
    obtain ⟨m0, hm0, h1, h2, _⟩ := hsome j m hj
    have hx' : x ≠ id ∧ x ∈ m0.kids := by
      rcases h2 with ⟨e, e'⟩ | ⟨e, e'⟩
      · subst e
        rw [hp] at hm0; cases hm0
        rw [e'] at hx
        exact ⟨fun e => by subst e; exact List.Nodup.not_mem_erase hnd hx, List.mem_of_mem_erase hx⟩
      · rw [e'] at hx; exact ⟨fun e2 => e (hkid _ _ _ hm0 hx e2), hx⟩
    obtain ⟨q, hq, hqu⟩ := hW.kid _ _ _ hm0 hx'.2
    obtain ⟨q', hq', h3, _⟩ := hback _ _ hq
    refine ⟨q', hq', ?_⟩
    rcases h3 with ⟨e, _⟩ | ⟨_, e⟩
    · exact absurd e hx'.1
    · exact e.trans hqu
  · intro j m q hj hq
    obtain ⟨m0, hm0, h1, h2, _⟩ := hsome j m hj
    rcases h1 with ⟨_, e⟩ | ⟨e1, e⟩
    · rw [e] at hq; cases hq
    · obtain ⟨n', hn1, hn2⟩ := hW.par _ _ _ hm0 (e.symm.trans hq)
      obtain ⟨m', hm', _, h3, _⟩ := hback _ _ hn1
      exact ⟨m', hm', h3 _ e1 hn2⟩
  · intro j m hj
    obtain ⟨m0, hm0, h1, h2, e3, e4⟩ := hsome j m hj
    obtain ⟨a1, a2, a3, a4, a5⟩ := hW.node_ok hm0
    rw [e3, e4]
    rcases h2 with ⟨_, e⟩ | ⟨_, e⟩
    · rw [e]
      exact ⟨a1.erase _, fun e => by rw [a2 e]; rfl, a3, a4, a5⟩
    · rw [e]; exact ⟨a1, a2, a3, a4, a5⟩
  · classical
    refine ⟨fun j => if Anc T j id then T.depthF fuel j - T.depthF fuel id else T.depthF fuel j, fun j m hj => ?_⟩
    obtain ⟨m0, hm0, h1, h2, _⟩ := hsome j m hj
    obtain ⟨r1, r2, r3⟩ := hW.ranks _ _ hm0
    refine ⟨fun e => ?_, fun q hq => ?_, ?_⟩
    · rcases h1 with ⟨e1, e'⟩ | ⟨e1, e'⟩
      · subst e1; simp [Anc.refl]
      · have hnu := e'.symm.trans e
        have hna : ¬ Anc T j id := fun h => e1 (h.root hm0 hnu)
        simp only [if_neg hna]
        exact r1 hnu
    · rcases h1 with ⟨rfl, e'⟩ | ⟨e1, e'⟩
      · rw [e'] at hq; cases hq
      · have hnq := e'.symm.trans hq
        have h3 := r2 q hnq
        by_cases hna : Anc T j id
        · have hqa : Anc T q id := by
            rcases hna.step_inv hm0 hnq with e | h
            · exact absurd e e1
            · exact h
          obtain ⟨mq, hmq, _⟩ := hW.par _ _ _ hm0 hnq
          have := (hW.anc_depth hmq hqa).2.1
          simp only [if_pos hna, if_pos hqa]
          omega
        · have hqa : ¬ Anc T q id := fun h => hna (.step hm0 hnq h)
          simp only [if_neg hna, if_neg hqa]
          exact h3
    · by_cases hna : Anc T j id
      · simp only [if_pos hna]; omega
      · simp only [if_neg hna]; exact r3

theorem WF.remove (hW : T.WF) (id : Int) : (T.remove id).2.WF := by
  rcases remove_cases hW id with ⟨_, e⟩ | ⟨n, _, _, e⟩ | ⟨n, up, p, hn, hu, hp, _, e⟩
  · rw [e]; exact hW
  · rw [e]; exact hW
  · rw [e]
    exact hW.removeAt (get_some hn).2.1 hu hp

/-- All that is within a node is none any more. -/
def minus (T : DT) (P : Nat → Bool) : DT := { T with nodes := T.nodes.mapIdx fun j x => if P j then none else x }
theorem at_minus (P : Nat → Bool) (j : Nat) : (T.minus P).at_ j = if P j then none else T.at_ j := by
  unfold minus at_
  simp only [List.getElem?_mapIdx]
  cases T.nodes[j]? with
  | none => simp
  | some x => simp
theorem minus_length (P : Nat → Bool) : (T.minus P).nodes.length = T.nodes.length := by simp [minus]
/-- Drop of chapter 8. -/
def dropped (T : DT) (id : Nat) : DT := T.minus fun j => (T.at_ j).isSome && T.within j id
def drop (T : DT) (id : Int) : Int × DT :=
  match T.get id with
  | none => (2, T)
  | some n => if id = 0 ∨ 0 ≤ upI n.up then (1, T) else (0, T.dropped id.toNat)

theorem WF.at_dropped (hW : T.WF) (id j : Nat) {n : Nd} : (T.dropped id).at_ j = some n ↔ T.at_ j = some n ∧ ¬ Anc T j id := by
  unfold dropped
  rw [at_minus]
  cases hj : T.at_ j with
  | none => simp
  | some m =>
    have := hW.within_anc hj id
    by_cases h : Anc T j id
    · have e := this.2 h
      simp [e, h]
    · have e : T.within j id = false := (hW.within_not hj id).2 h
      simp [e, h]
theorem WF.dropped (hW : T.WF) {id : Nat} {n : Nd} (hn : T.at_ id = some n) (hu : n.up = none) (h0 : id ≠ 0) : (T.dropped id).WF := by
  refine hW.of_at rfl rfl (by unfold DT.dropped; rw [minus_length]; exact hW.len) ?_ ?_ ?_ ?_ ⟨T.depthF fuel, ?_⟩
  · obtain ⟨m, hm, h1, h2⟩ := hW.host
    exact ⟨m, (hW.at_dropped _ _).2 ⟨hm, fun h => h0 (h.root hm h2).symm⟩, h1, h2⟩
  · intro j m x hj hx
    obtain ⟨h1, h2⟩ := (hW.at_dropped _ _).1 hj
    obtain ⟨q, hq, e⟩ := hW.kid _ _ _ h1 hx
    refine ⟨q, (hW.at_dropped _ _).2 ⟨hq, fun h => ?_⟩, e⟩
    rcases h.step_inv hq e with rfl | h
    · rw [hn] at hq; cases hq; rw [hu] at e; cases e
    · exact h2 h
  · intro j m q hj hq
    obtain ⟨h1, h2⟩ := (hW.at_dropped _ _).1 hj
    obtain ⟨m', hm', e⟩ := hW.par _ _ _ h1 hq
    exact ⟨m', (hW.at_dropped _ _).2 ⟨hm', fun h => h2 (.step h1 hq h)⟩, e⟩
  · intro j m hj
    exact hW.node_ok ((hW.at_dropped _ _).1 hj).1
  · intro j m hj
    exact hW.ranks _ _ ((hW.at_dropped _ _).1 hj).1
theorem WF.drop (hW : T.WF) (id : Int) : (T.drop id).2.WF := by
  unfold DT.drop
  cases hn : T.get id with
  | none => exact hW
  | some n =>
    obtain ⟨h0, h1, h2⟩ := get_some hn
    dsimp only
    split
    · exact hW
    · rename_i h
      simp only [not_or] at h
      refine hW.dropped h1 ?_ (by omega)
      cases hu : n.up with
      | none => rfl
      | some q => rw [hu] at h; simp only [upI] at h; omega
end DT
end Go.Proofs.Ytnnjlpkjpbbklaa

-- DomGraft: Plain trees, and Graft of chapter 8 on the tree as plain data. No program in sight. Conditions: none.
namespace Go.Proofs.Ytnnjlpkjpbbklaa

namespace PNode
theorem ind {P : PNode → Prop} (h : ∀ t a x ks, (∀ k ∈ ks, P k) → P (.mk t a x ks)) : ∀ n, P n := fun n =>
  PNode.rec (motive_1 := P) (motive_2 := fun ks => ∀ k ∈ ks, P k) (fun t a x ks ih => h t a x ks ih) (fun _ hk => by cases hk) (fun k ks h1 h2 x hx => by
    rcases List.mem_cons.1 hx with rfl | hx
    · exact h1
    · exact h2 x hx) n
mutual
def size : PNode → Nat
  | .mk _ _ _ ks => sizeL ks + 1
def sizeL : List PNode → Nat
  | [] => 0
  | k :: ks => size k + sizeL ks
end
mutual
def high : PNode → Nat
  | .mk _ _ _ ks => highL 0 ks
def highL : Nat → List PNode → Nat
  | b, [] => b
  | b, k :: ks => highL (max b (high k + 1)) ks
end
-- The texts written anew.
mutual
def turned (f : Bytes → Bytes) : PNode → PNode
  | .mk t a x ks => .mk t a (f x) (turnedL f ks)
def turnedL (f : Bytes → Bytes) : List PNode → List PNode
  | [] => []
  | k :: ks => turned f k :: turnedL f ks
end
/-- May a node by itself be? -/
def badOne (t : Int) (a : List (Bytes × Bytes)) (x : Bytes) (ks : List PNode) : Bool := if t = 0 then !(a.isEmpty && ks.isEmpty) else !(elementOk t) || decide (x.size ≠ 0)
def worse (e : Int) (bad long : Bool) : Int := if bad then 1 else if long && e == 0 then 10 else e
-- The error of a plain tree, from e on.
mutual
def err (f : Bytes → Bytes) : Int → PNode → Int
  | e, .mk t a x ks => errL f (worse e (badOne t a x ks) (decide (8192 < (f x).size))) ks
def errL (f : Bytes → Bytes) : Int → List PNode → Int
  | e, [] => e
  | e, k :: ks => errL f (err f e k) ks
end
-- May it be?
mutual
def ok (f : Bytes → Bytes) : PNode → Prop
  | .mk t a x ks => badOne t a x ks = false ∧ (f x).size ≤ 8192 ∧ okL f ks
def okL (f : Bytes → Bytes) : List PNode → Prop
  | [] => True
  | k :: ks => ok f k ∧ okL f ks
end
variable {f : Bytes → Bytes}
theorem sizeL_cons (k : PNode) (ks : List PNode) : sizeL (k :: ks) = size k + sizeL ks := rfl
theorem highL_cons (b : Nat) (k : PNode) (ks : List PNode) : highL b (k :: ks) = highL (max b (high k + 1)) ks := rfl
theorem turnedL_cons (k : PNode) (ks : List PNode) : turnedL f (k :: ks) = turned f k :: turnedL f ks := rfl
theorem turnedL_map (ks : List PNode) : turnedL f ks = ks.map (turned f) := by
  induction ks with
  | nil => rfl
  | cons k ks ih => simp only [turnedL, List.map_cons, ih]
theorem worse_ne {e : Int} {b l : Bool} (h : e ≠ 0) : worse e b l ≠ 0 := by
  unfold worse
  split
  · decide
  · split
    · decide
    · exact h
theorem err_ne : ∀ (n : PNode) (e : Int), e ≠ 0 → err f e n ≠ 0 := by
  intro n
  induction n using ind with
  | h t a x ks ih =>
    intro e he
    unfold err
    have h0 : worse e (badOne t a x ks) (decide (8192 < (f x).size)) ≠ 0 := worse_ne he
    generalize worse e (badOne t a x ks) (decide (8192 < (f x).size)) = e' at h0
    clear he
    induction ks generalizing e' with
    | nil => exact h0
    | cons k ks ih2 =>
      unfold errL
      exact ih2 (fun k hk => ih k (by simp [hk])) _ (ih k (by simp) e' h0)
theorem errL_ne (ks : List PNode) (e : Int) (he : e ≠ 0) : errL f e ks ≠ 0 := by
  induction ks generalizing e with
  | nil => exact he
  | cons k ks ih => unfold errL; exact ih _ (err_ne k e he)
theorem err_ok : ∀ (n : PNode), err f 0 n = 0 → ok f n := by
  intro n
  induction n using ind with
  | h t a x ks ih =>
    intro h
    unfold err at h
    unfold ok
    have h0 : worse 0 (badOne t a x ks) (decide (8192 < (f x).size)) = 0 := by
      by_cases e : worse 0 (badOne t a x ks) (decide (8192 < (f x).size)) = 0
      · exact e
      · exact absurd h (errL_ne ks _ e)
    rw [h0] at h
    have hb : badOne t a x ks = false ∧ ¬ 8192 < (f x).size := by
      unfold worse at h0
      cases hb : badOne t a x ks with
      | true => rw [hb] at h0; simp at h0
      | false =>
        rw [hb] at h0
        refine ⟨rfl, fun hl => ?_⟩
        simp [hl] at h0
    refine ⟨hb.1, by omega, ?_⟩
    clear h0 hb
    induction ks with
    | nil => trivial
    | cons k ks ih2 =>
      unfold errL at h
      have h1 : err f 0 k = 0 := by
        by_cases e : err f 0 k = 0
        · exact e
        · exact absurd h (errL_ne ks _ e)
      rw [h1] at h
      exact ⟨ih k (by simp) h1, ih2 (fun k hk => ih k (by simp [hk])) h⟩
end PNode

namespace DT
/-- Nodes that are there are there as they were. -/
structure Grown (T T' : DT) : Prop where
  cap : T'.cap = T.cap
  dep : T'.dep = T.dep
  at_ : ∀ j n, T.at_ j = some n → T'.at_ j = some n

theorem Grown.refl (T : DT) : Grown T T := ⟨rfl, rfl, fun _ _ h => h⟩
theorem Grown.trans {a b c : DT} (h : Grown a b) (k : Grown b c) : Grown a c := ⟨k.cap.trans h.cap, k.dep.trans h.dep, fun j n hn => k.at_ j n (h.at_ j n hn)⟩
theorem Grown.anc {T T' : DT} (h : Grown T T') {i o : Nat} (k : Anc T i o) : Anc T' i o := by
  induction k with
  | refl => exact .refl _
  | step hi hu _ ih => exact .step (h.at_ _ _ hi) hu ih
theorem Grown.plain {T T' : DT} (h : Grown T T') (hW : T.WF) (f i : Nat) (hi : ∃ n, T.at_ i = some n) : T'.plainF f i = T.plainF f i ∧ T'.heightF f i = T.heightF f i := by
  refine plain_congr (T := T) (T' := T') (fun i => ∃ n, T.at_ i = some n) (fun j ⟨n, hn⟩ => ⟨by rw [hn, h.at_ j n hn], fun n' hn' k hk => ?_⟩) f i hi
  obtain ⟨m, hm, _⟩ := hW.kid _ _ _ hn' hk
  exact ⟨m, hm⟩
theorem Grown.addAt (T : DT) (n : Nd) : Grown T (T.addAt n) := ⟨addAt_cap n, addAt_dep n, fun j m h => by
  rw [at_addAt, if_neg (fun e => by rw [e, slot_none] at h; cases h)]; exact h⟩

theorem anc_mono {T T' : DT} (h : ∀ i n, T.at_ i = some n → n.up ≠ none → ∃ n', T'.at_ i = some n' ∧ n'.up = n.up) {i o : Nat} (k : Anc T i o) : Anc T' i o := by
  induction k with
  | refl => exact .refl _
  | step hi hu _ ih =>
    obtain ⟨n', hn', e⟩ := h _ _ hi (by rw [hu]; exact fun e => by cases e)
    exact .step hn' (e.trans hu) ih
theorem count_put_some {T : DT} {i : Nat} {n : Nd} (h : T.at_ i = some n) (n' : Nd) : (T.put i (some n')).count = T.count := by
  have hl := at_lt h
  unfold count DT.put
  have h0 : T.nodes[i] = some n := by
    unfold DT.at_ at h
    rw [List.getElem?_eq_getElem hl] at h
    simpa using h
  rw [List.countP_set (h := hl)]
  have : 0 < T.nodes.countP Option.isSome := List.countP_pos_iff.2 ⟨some n, by rw [← h0]; exact List.getElem_mem hl, rfl⟩
  simp [h0]
  omega
theorem count_insertAt {T : DT} {parent a kid : Nat} {p k : Nd} (hp : T.at_ parent = some p) (hk : T.at_ kid = some k) (hne : parent ≠ kid) : (T.insertAt parent a kid p k).count = T.count := by
  unfold insertAt
  rw [count_put_some (n := k) (by rw [at_put_ne _ (fun e => hne e.symm)]; exact hk), count_put_some hp]

/-- A loose node as another one's last kid. -/
def link (T : DT) (id kid : Nat) : DT := match T.at_ id, T.at_ kid with
  | some p, some k => T.insertAt id p.kids.length kid p k
  | _, _ => T
-- put of Graft: a plain tree as a loose one.
mutual
def graftP (f : Bytes → Bytes) : PNode → DT → Nat × DT
  | .mk t a x ks, T => (T.slot, graftL f ks T.slot (T.addAt ⟨t, a, f x, [], none⟩))
def graftL (f : Bytes → Bytes) : List PNode → Nat → DT → DT
  | [], _, T => T
  | k :: ks, id, T => graftL f ks id ((graftP f k T).2.link id (graftP f k T).1)
end

structure PutP (f : Bytes → Bytes) (T T' : DT) (id : Nat) (n : PNode) : Prop where
  wf : T'.WF
  grown : Grown T T'
  new : T.at_ id = none
  node : ∃ m, T'.at_ id = some m ∧ m.up = none
  count : T'.count = T.count + n.size
  plain : T'.plainF fuel id = n.turned f
  high : T'.heightF fuel id = n.high
  within : ∀ j m, T'.at_ j = some m → T.at_ j = none → Anc T' j id
structure PutL (f : Bytes → Bytes) (T T' : DT) (id : Nat) (m : Nd) (ks : List PNode) : Prop where
  wf : T'.WF
  cap : T'.cap = T.cap
  dep : T'.dep = T.dep
  others : ∀ j n, j ≠ id → T.at_ j = some n → T'.at_ j = some n
  node : ∃ m', T'.at_ id = some m' ∧ m'.up = none
  count : T'.count = T.count + PNode.sizeL ks
  plain : T'.plainF fuel id = .mk m.tag m.attrs m.text (m.kids.map (T.plainF fuel) ++ PNode.turnedL f ks)
  high : T'.heightF fuel id = PNode.highL (T.heightF fuel id) ks
  within : ∀ j m, T'.at_ j = some m → T.at_ j = none → Anc T' j id

theorem highL_ge : ∀ (ks : List PNode) (b : Nat), b ≤ PNode.highL b ks := by
  intro ks
  induction ks with
  | nil => intro b; exact Nat.le_refl _
  | cons k ks ih =>
    intro b
    unfold PNode.highL
    exact Nat.le_trans (by omega) (ih _)

/-- Only the node o is another one, and not its parent: what others tell is as it was. -/
theorem WF.plain_but {T T' : DT} (hW : T.WF) {o : Nat} {n : Nd} (hr : T.at_ o = some n) (hu : n.up = none) (ho : ∀ i m, T.at_ i = some m → i ≠ o → (T'.at_ i).map Nd.low = some m.low) (g i : Nat) (hi : ∃ m, T.at_ i = some m) (hne : i ≠ o) :
    T'.plainF g i = T.plainF g i ∧ T'.heightF g i = T.heightF g i :=
  hW.plain_apart (o := o) (fun j m hj hx => ho j m hj fun e => hx (e ▸ .refl _)) g i hi fun h => hne (h.root hr hu).symm

theorem graft_list_of {f : Bytes → Bytes} : ∀ (ks : List PNode) (id : Nat) (T : DT) (m : Nd), (∀ k ∈ ks, ∀ T : DT, T.WF → k.ok f → (T.count : Int) + k.size ≤ T.cap → (k.high : Int) ≤ T.dep → PutP f T (graftP f k T).2 (graftP f k T).1 k) →
    T.WF → PNode.okL f ks → T.at_ id = some m → m.up = none → (ks ≠ [] → m.tag ≠ 0) → (T.count : Int) + PNode.sizeL ks ≤ T.cap → (PNode.highL (T.heightF fuel id) ks : Int) ≤ T.dep → PutL f T (graftL f ks id T) id m ks := by
  intro ks
  induction ks with
  | nil =>
    intro id T m _ hW _ hm hu _ _ _
    unfold graftL
    refine ⟨hW, rfl, rfl, fun _ _ _ h => h, ⟨m, hm, hu⟩, rfl, ?_, rfl, fun j m h1 h2 => by rw [h1] at h2; cases h2⟩
    rw [hW.plain_step hm]; simp [PNode.turnedL]
  | cons k ks ihl =>
    intro id T m ih hW hok hm hu ht hcap hdep
    unfold PNode.okL at hok
    rw [PNode.sizeL_cons] at hcap
    rw [PNode.highL_cons] at hdep
    have hge := highL_ge ks (max (T.heightF fuel id) (k.high + 1))
    obtain ⟨q1, q2, q3, q4, q5, q6, q7, q8⟩ := ih k (by simp) T hW hok.1 (by omega) (by omega)
    unfold graftL
    generalize hT2 : (graftP f k T).2 = T2 at *
    generalize hkid : (graftP f k T).1 = kid at *
    obtain ⟨mk, hmk, hmu⟩ := q4
    have hm2 := q2.at_ _ _ hm
    have hne : id ≠ kid := fun e => by rw [e, q3] at hm; cases hm
    have hna : ¬ Anc T2 id kid := fun h => hne (h.root hm2 hu)
    have htag := ht (by simp)
    have hlink : T2.link id kid = T2.insertAt id m.kids.length kid m mk := by unfold link; rw [hm2, hmk]
    have hk0 : kid ≠ 0 := fun e => by
      obtain ⟨m0, h0, _⟩ := hW.host
      rw [e, h0] at q3; cases q3
    have hW3 : (T2.link id kid).WF := by
      rw [hlink]
      refine q1.insertAt hm2 hmk htag hk0 hmu hna ?_
      rw [q1.depth_root hm2 hu, q7, q2.dep]
      omega
    have hat : ∀ j, (T2.link id kid).at_ j = if j = kid then some { mk with up := some id } else if j = id then some { m with kids := m.kids ++ [kid] } else T2.at_ j := by
      intro j
      rw [hlink, at_insertAt hm2 hmk]
      simp
    have hid : (T2.link id kid).at_ id = some { m with kids := m.kids ++ [kid] } := by rw [hat, if_neg hne, if_pos rfl]
    have hkd : (T2.link id kid).at_ kid = some { mk with up := some id } := by rw [hat, if_pos rfl]
    have hlow : ∀ i m, T2.at_ i = some m → i ≠ id → ((T2.link id kid).at_ i).map Nd.low = some m.low := by
      intro i m' hi hne'
      rw [hat]
      by_cases e : i = kid
      · rw [if_pos e]; subst e; rw [hmk] at hi; cases hi; rfl
      · rw [if_neg e, if_neg hne', hi]; rfl
    have hpl : ∀ g i, (∃ m, T2.at_ i = some m) → i ≠ id → (T2.link id kid).plainF g i = T2.plainF g i ∧ (T2.link id kid).heightF g i = T2.heightF g i := fun g i hi hne' => q1.plain_but hm2 hu hlow g i hi hne'
    have hkids : ∀ c ∈ m.kids, (T2.link id kid).plainF fuel c = T.plainF fuel c ∧ (T2.link id kid).heightF fuel c = T.heightF fuel c := by
      intro c hc
      obtain ⟨mc, hmc, hcu⟩ := hW.kid _ _ _ hm hc
      have hcne : c ≠ id := fun e => by subst e; rw [hm] at hmc; cases hmc; rw [hu] at hcu; cases hcu
      have h1 := hpl fuel c ⟨mc, q2.at_ _ _ hmc⟩ hcne
      have h2 := q2.plain hW fuel c ⟨mc, hmc⟩
      exact ⟨h1.1.trans h2.1, h1.2.trans h2.2⟩
    have hkp := hpl fuel kid ⟨mk, hmk⟩ (fun e => hne e.symm)
    have hhid : (T2.link id kid).heightF fuel id = max (T.heightF fuel id) (k.high + 1) := by
      rw [hW3.height_step hid, hW.height_step hm]
      show (m.kids ++ [kid]).foldl _ 0 = _
      rw [List.foldl_append]
      simp only [List.foldl_cons, List.foldl_nil]
      rw [hkp.2, q7]
      congr 1
      exact foldl_congr _ _ _ _ fun b c hc => by rw [(hkids c hc).2]
    have hc3 : (T2.link id kid).count = T.count + k.size := by rw [hlink, count_insertAt hm2 hmk hne, q5]
    have hcap3 : (T2.link id kid).cap = T.cap := by rw [hlink]; exact q2.cap
    have hdep3 : (T2.link id kid).dep = T.dep := by rw [hlink]; exact q2.dep
    generalize T2.link id kid = T3 at *
    obtain ⟨p1, p2, p3, p4, p5, p6, p7, p8, p9⟩ := ihl id T3 { m with kids := m.kids ++ [kid] } (fun k hk => ih k (by simp [hk])) hW3 hok.2 hid hu (fun _ => htag) (by rw [hc3, hcap3]; omega) (by rw [hhid, hdep3]; exact hdep)
    have ho3 : ∀ j n, j ≠ id → T.at_ j = some n → T3.at_ j = some n := by
      intro j n hj hn
      rw [hat, if_neg (fun e => by rw [e, q3] at hn; cases hn), if_neg hj]
      exact q2.at_ _ _ hn
    refine ⟨p1, p2.trans hcap3, p3.trans hdep3, fun j n hj hn => p4 j n hj (ho3 j n hj hn), p5, ?_, ?_, ?_, ?_⟩
    · rw [p6, hc3, PNode.sizeL_cons]; omega
    · rw [p7, PNode.turnedL_cons]
      show PNode.mk m.tag m.attrs m.text ((m.kids ++ [kid]).map (T3.plainF fuel) ++ PNode.turnedL f ks) = _
      rw [List.map_append, List.append_assoc]
      congr 2
      · exact List.map_congr_left fun c hc => (hkids c hc).1
      · simp only [List.map_cons, List.map_nil, List.cons_append, List.nil_append]
        rw [hkp.1, q6]
    · rw [p8, hhid]
      rfl
    · have hup3 : ∀ i n, T3.at_ i = some n → n.up ≠ none → ∃ n', (graftL f ks id T3).at_ i = some n' ∧ n'.up = n.up := by
        intro i n hi hnu
        refine ⟨n, p4 i n (fun e => ?_) hi, rfl⟩
        subst e; rw [hid] at hi; cases hi; exact hnu hu
      intro j m' hj hno
      cases hj3 : T3.at_ j with
      | none => exact p9 j m' hj hj3
      | some n3 =>
        refine anc_mono hup3 ?_
        by_cases e1 : j = id
        · subst e1; exact .refl _
        · by_cases e2 : j = kid
          · subst e2; exact .step hkd rfl (.refl _)
          · have h2 : T2.at_ j = some n3 := by rw [hat, if_neg e2, if_neg e1] at hj3; exact hj3
            have h3 := q8 j n3 h2 hno
            have h4 : Anc T3 j kid := anc_mono (T := T2) (fun i n hi hnu => by
              by_cases e : i = kid
              · subst e; rw [hmk] at hi; cases hi; exact absurd hmu hnu
              · refine ⟨n, ?_, rfl⟩
                rw [hat, if_neg e]
                by_cases e' : i = id
                · subst e'; rw [hm2] at hi; cases hi; exact absurd hu hnu
                · rw [if_neg e']; exact hi) h3
            exact h4.trans (.step hkd rfl (.refl _))

theorem graft_put {f : Bytes → Bytes} : ∀ (n : PNode) (T : DT), T.WF → n.ok f → (T.count : Int) + n.size ≤ T.cap → (n.high : Int) ≤ T.dep → PutP f T (graftP f n T).2 (graftP f n T).1 n := by
  intro n
  induction n using PNode.ind with
  | h t a x ks ih =>
    intro T hW hok hcap hdep
    unfold PNode.ok at hok
    unfold PNode.size at hcap
    unfold PNode.high at hdep
    obtain ⟨hb, hx, hks⟩ := hok
    have hroom : T.roomFor 1 = true := by simp only [roomFor, decide_eq_true_eq]; omega
    have htag : (t = 0 ∧ a = [] ∧ ks = []) ∨ (1 ≤ t ∧ t ≤ 16) := by
      unfold PNode.badOne at hb
      split at hb
      · rename_i e
        simp at hb
        exact .inl ⟨e, hb.1, hb.2⟩
      · simp at hb
        exact .inr (elementOk_iff.1 hb.1)
    have hW1 : (T.addAt ⟨t, a, f x, [], none⟩).WF := hW.addAt hroom rfl rfl (by show 0 ≤ t ∧ t ≤ 16; omega) hx
    have hg1 := Grown.addAt T ⟨t, a, f x, [], none⟩
    have h1 : (T.addAt ⟨t, a, f x, [], none⟩).at_ T.slot = some ⟨t, a, f x, [], none⟩ := by rw [at_addAt, if_pos rfl]
    have hh1 : (T.addAt ⟨t, a, f x, [], none⟩).heightF fuel T.slot = 0 := by rw [hW1.height_step h1]; rfl
    have hc1 : (T.addAt ⟨t, a, f x, [], none⟩).count = T.count + 1 := count_addAt _
    obtain ⟨p1, p2, p3, p4, p5, p6, p7, p8, p9⟩ := graft_list_of ks T.slot (T.addAt ⟨t, a, f x, [], none⟩) _ ih hW1 hks h1 rfl (fun h => by
      rcases htag with ⟨_, _, e⟩ | e
      · exact absurd e h
      · show t ≠ 0; omega) (by rw [hc1, hg1.cap]; omega) (by rw [hh1, hg1.dep]; exact hdep)
    unfold graftP
    refine ⟨p1, ⟨p2.trans hg1.cap, p3.trans hg1.dep, fun j n hn => p4 j n (fun e => by rw [e, slot_none] at hn; cases hn) (hg1.at_ _ _ hn)⟩, slot_none, p5, ?_, ?_, ?_, ?_⟩
    · rw [p6, hc1]; unfold PNode.size; omega
    · rw [p7]; simp [PNode.turned]
    · rw [p8, hh1]; unfold PNode.high; rfl
    · intro j m hj hno
      by_cases e : j = T.slot
      · subst e; exact .refl _
      · exact p9 j m hj (by rw [at_addAt, if_neg e]; exact hno)

theorem graft_list {f : Bytes → Bytes} (ks : List PNode) (id : Nat) (T : DT) (m : Nd) (hW : T.WF) (hok : PNode.okL f ks) (hm : T.at_ id = some m) (hu : m.up = none) (ht : ks ≠ [] → m.tag ≠ 0) (hc : (T.count : Int) + PNode.sizeL ks ≤ T.cap) (hh : (PNode.highL (T.heightF fuel id) ks : Int) ≤ T.dep) : PutL f T (graftL f ks id T) id m ks :=
  graft_list_of ks id T m (fun k _ T => graft_put k T) hW hok hm hu ht hc hh
theorem graftL_append {f : Bytes → Bytes} (l : List PNode) (k : PNode) (id : Nat) (T : DT) : graftL f (l ++ [k]) id T = (graftP f k (graftL f l id T)).2.link id (graftP f k (graftL f l id T)).1 := by
  induction l generalizing T with
  | nil => rfl
  | cons x l ih => exact ih _
theorem link_eq {T : DT} {id kid : Nat} {p k : Nd} (hp : T.at_ id = some p) (hk : T.at_ kid = some k) : T.link id kid = (T.put id (some { p with kids := p.kids ++ [kid] })).put kid (some { k with up := some id }) := by
  unfold link insertAt
  rw [hp, hk]
  simp

/-- Graft of chapter 8. -/
def graft (f : Bytes → Bytes) (T : DT) (parent pos : Int) (n : PNode) : (Int × Int) × DT :=
  match T.get parent with
  | none => ((0, 2), T)
  | some p =>
    if p.tag = 0 then ((0, 6), T)
    else if pos < 0 ∨ (p.kids.length : Int) < pos then ((0, 1), T)
    else if n.err f 0 ≠ 0 then ((0, n.err f 0), T)
    else if T.dep < T.depth parent + 1 + n.high then ((0, 4), T)
    else if T.roomFor n.size = false then ((0, 3), T)
    else ((((graftP f n T).1 : Int), ((graftP f n T).2.insert parent pos (graftP f n T).1).1), ((graftP f n T).2.insert parent pos (graftP f n T).1).2)
end DT
end Go.Proofs.Ytnnjlpkjpbbklaa

-- DomLawP: The tree as plain data: what the calls of chapter 8 leave of what is told: Graft, Remove, Insert, Drop. No program in sight. Conditions: none.
namespace Go.Proofs.Ytnnjlpkjpbbklaa
namespace DT
variable {T : DT} {f : Bytes → Bytes}

theorem ext_at {T T' : DT} (hc : T'.cap = T.cap) (hd : T'.dep = T.dep) (hl : T'.nodes.length = T.nodes.length) (h : ∀ j, T'.at_ j = T.at_ j) : T' = T := by
  obtain ⟨c, d, l⟩ := T
  obtain ⟨c', d', l'⟩ := T'
  simp only at hc hd hl
  subst hc hd
  congr 1
  refine List.ext_getElem hl fun i h1 h2 => ?_
  have := h i
  unfold at_ at this
  simp only [List.getElem?_eq_getElem h1, List.getElem?_eq_getElem h2, Option.getD_some] at this
  exact this

theorem has_nat (i : Nat) : T.has (i : Int) = (T.at_ i).isSome := by unfold has; rw [get_nat]

/-- Parents are the same among P, and P goes up: depth and within are the same. -/
theorem depth_congr {T T' : DT} (P : Nat → Prop) (hP : ∀ i, P i → T'.up i = T.up i ∧ ∀ p, T.up i = some p → P p) : ∀ f i, P i → T'.depthF f i = T.depthF f i ∧ ∀ o, T'.withinF f i o = T.withinF f i o := by
  intro f
  induction f with
  | zero => intro i _; exact ⟨rfl, fun _ => rfl⟩
  | succ f ih =>
    intro i hi
    obtain ⟨h1, h2⟩ := hP i hi
    unfold depthF withinF
    rw [h1]
    cases hu : T.up i with
    | none => exact ⟨rfl, fun _ => rfl⟩
    | some p =>
      obtain ⟨a, b⟩ := ih p (h2 p hu)
      exact ⟨by dsimp only; rw [a], fun o => by dsimp only; rw [b o]⟩

theorem count_grown {T T' : DT} (h : ∀ j : Nat, (T'.at_ j).isSome = (T.at_ j).isSome) : T'.count = T.count := by
  have key : ∀ (l l' : List (Option Nd)), (∀ j : Nat, ((l'[j]?).getD none).isSome = ((l[j]?).getD none).isSome) → l'.countP Option.isSome = l.countP Option.isSome := by
    intro l
    induction l with
    | nil =>
      intro l' h
      rw [List.countP_nil, List.countP_eq_zero]
      intro x hx
      obtain ⟨i, hi, e⟩ := List.mem_iff_getElem.1 hx
      have := h i
      rw [List.getElem?_eq_getElem hi] at this
      simp at this
      rw [← e, this]; simp
    | cons a l ih =>
      intro l' h
      cases l' with
      | nil =>
        rw [List.countP_nil]
        symm
        rw [List.countP_eq_zero]
        intro x hx
        obtain ⟨i, hi, e⟩ := List.mem_iff_getElem.1 hx
        have := h i
        rw [List.getElem?_eq_getElem hi] at this
        simp at this
        rw [← e, this]; simp
      | cons a' l' =>
        have h0 := h 0
        simp at h0
        rw [List.countP_cons, List.countP_cons, ih l' (fun j => by simpa using h (j + 1)), h0]
  exact key T.nodes T'.nodes h

/-! ### Remove -/
theorem WF.remove_low (hW : T.WF) {id up : Nat} {n p : Nd} (hn : T.at_ id = some n) (hu : n.up = some up) (hp : T.at_ up = some p) :
    ∀ i m, T.at_ i = some m → ¬ Anc T up i → ((T.removeAt id up n p).at_ i).map Nd.low = some m.low := by
  intro i m hi hx
  rw [at_removeAt hn hp]
  by_cases e : i = id
  · rw [if_pos e]; subst e; rw [hn] at hi; cases hi; rfl
  · rw [if_neg e, if_neg (fun e' : i = _ => hx (e' ▸ .refl _)), hi]; rfl
theorem WF.remove_plain (hW : T.WF) {id up : Nat} {n p : Nd} (hn : T.at_ id = some n) (hu : n.up = some up) (hp : T.at_ up = some p) {i : Nat} (hi : ∃ m, T.at_ i = some m) (hx : ¬ Anc T up i) (g : Nat) :
    (T.removeAt id up n p).plainF g i = T.plainF g i ∧ (T.removeAt id up n p).heightF g i = T.heightF g i :=
  hW.plain_apart (hW.remove_low hn hu hp) g i hi hx
theorem WF.remove_self (hW : T.WF) {id up : Nat} {n p : Nd} (hn : T.at_ id = some n) (hu : n.up = some up) (hp : T.at_ up = some p) (g : Nat) :
    (T.removeAt id up n p).plainF g id = T.plainF g id ∧ (T.removeAt id up n p).heightF g id = T.heightF g id :=
  hW.remove_plain hn hu hp ⟨n, hn⟩ (hW.no_loop hn hu) g

/-! ### Insert -/
theorem insert_plain (hW : T.WF) {parent a kid : Nat} {p k : Nd} (hp : T.at_ parent = some p) (hk : T.at_ kid = some k) {i : Nat} (hi : ∃ m, T.at_ i = some m) (hx : ¬ Anc T parent i) (g : Nat) :
    (T.insertAt parent a kid p k).plainF g i = T.plainF g i ∧ (T.insertAt parent a kid p k).heightF g i = T.heightF g i := by
  refine hW.plain_apart (o := parent) (fun i m hi hx => ?_) g i hi hx
  rw [at_insertAt hp hk]
  by_cases e : i = kid
  · rw [if_pos e]; subst e; rw [hk] at hi; cases hi; rfl
  · rw [if_neg e, if_neg (fun e' : i = _ => hx (e' ▸ .refl _)), hi]; rfl

theorem erase_ins {l : List Nat} {a k : Nat} (hk : k ∉ l) : (l.take a ++ (k :: l.drop a)).erase k = l := by
  rw [List.erase_append_right _ (fun h => hk (List.mem_of_mem_take h)), List.erase_cons_head, List.take_append_drop]
theorem ins_erase {l : List Nat} {k : Nat} (hk : k ∈ l) : (l.erase k).take (l.idxOf k) ++ (k :: (l.erase k).drop (l.idxOf k)) = l := by
  induction l with
  | nil => cases hk
  | cons x l ih =>
    by_cases e : x = k
    · subst e; simp
    · rcases List.mem_cons.1 hk with h | h
      · exact absurd h.symm e
      · rw [List.erase_cons_tail (by simpa using e), List.idxOf_cons, show (x == k) = false by simpa using e]
        simp only [cond_false]
        simp only [List.take_succ_cons, List.drop_succ_cons, List.cons_append]
        rw [ih h]

/-- Inserted, and removed. -/
theorem remove_insert {parent a kid : Nat} {p k : Nd} (hp : T.at_ parent = some p) (hk : T.at_ kid = some k) (hne : parent ≠ kid) (hu : k.up = none) (hkp : kid ∉ p.kids) :
    (T.insertAt parent a kid p k).removeAt kid parent { k with up := some parent } { p with kids := p.kids.take a ++ (kid :: p.kids.drop a) } = T := by
  have h1 : (T.insertAt parent a kid p k).at_ kid = some { k with up := some parent } := by rw [at_insertAt hp hk, if_pos rfl]
  have h2 : (T.insertAt parent a kid p k).at_ parent = some { p with kids := p.kids.take a ++ (kid :: p.kids.drop a) } := by rw [at_insertAt hp hk, if_neg hne, if_pos rfl]
  refine ext_at rfl rfl (by unfold removeAt insertAt; simp only [put_nodes_length]) fun j => ?_
  rw [at_removeAt h1 h2]
  by_cases e1 : j = kid
  · rw [if_pos e1, e1, hk]; congr 1; rw [← hu]
  · rw [if_neg e1]
    by_cases e2 : j = parent
    · rw [if_pos e2, e2, hp]; congr 1
      simp only [erase_ins hkp]
    · rw [if_neg e2, at_insertAt hp hk, if_neg e1, if_neg e2]
/-- Removed, and inserted where it was. -/
theorem insert_remove {id up : Nat} {n p : Nd} (hn : T.at_ id = some n) (hu : n.up = some up) (hp : T.at_ up = some p) (hne : up ≠ id) (hm : id ∈ p.kids) :
    (T.removeAt id up n p).insertAt up (p.kids.idxOf id) id { p with kids := p.kids.erase id } { n with up := none } = T := by
  have h1 : (T.removeAt id up n p).at_ id = some { n with up := none } := by rw [at_removeAt hn hp, if_pos rfl]
  have h2 : (T.removeAt id up n p).at_ up = some { p with kids := p.kids.erase id } := by rw [at_removeAt hn hp, if_neg hne, if_pos rfl]
  refine ext_at rfl rfl (by unfold removeAt insertAt; simp only [put_nodes_length]) fun j => ?_
  rw [at_insertAt h2 h1]
  by_cases e1 : j = id
  · rw [if_pos e1, e1, hn]; congr 1; rw [← hu]
  · rw [if_neg e1]
    by_cases e2 : j = up
    · rw [if_pos e2, e2, hp]; congr 1
      simp only [ins_erase hm]
    · rw [if_neg e2, at_removeAt hn hp, if_neg e1, if_neg e2]

/-! ### Graft -/
theorem WF.graft_spec (hW : T.WF) (parent pos : Int) (n : PNode) :
    (∃ e, e ≠ 0 ∧ T.graft f parent pos n = ((0, e), T)) ∨
    ∃ p T' id m, T.get parent = some p ∧ 0 ≤ pos ∧ pos ≤ p.kids.length ∧ n.ok f ∧ PutP f T T' id n ∧ T'.at_ id = some m ∧ m.up = none ∧ T'.at_ parent.toNat = some p ∧ parent.toNat ≠ id ∧ id ∉ p.kids ∧ id ≠ 0 ∧
      (T'.insertAt parent.toNat pos.toNat id p m).WF ∧ T'.insert parent pos id = (0, T'.insertAt parent.toNat pos.toNat id p m) ∧ (graftP f n T) = (id, T') ∧ T.graft f parent pos n = (((id : Int), 0), T'.insertAt parent.toNat pos.toNat id p m) := by
  unfold graft
  cases hp : T.get parent with
  | none => exact .inl ⟨2, by decide, rfl⟩
  | some p =>
    obtain ⟨h0, hp1, hp2⟩ := get_some hp
    dsimp only
    split
    · exact .inl ⟨6, by decide, rfl⟩
    rename_i ht
    split
    · exact .inl ⟨1, by decide, rfl⟩
    rename_i hpos
    simp only [not_or] at hpos
    split
    · rename_i he; exact .inl ⟨_, he, rfl⟩
    rename_i he
    split
    · exact .inl ⟨4, by decide, rfl⟩
    rename_i hd
    split
    · exact .inl ⟨3, by decide, rfl⟩
    rename_i hr
    right
    simp only [Bool.not_eq_false, roomFor, decide_eq_true_eq] at hr
    have hok : n.ok f := PNode.err_ok n (by simpa using he)
    have hdp := depth_has hp
    have hcap := hW.rank_depth _ _ hp1
    have hput := graft_put (f := f) n T hW hok (by omega) (by omega)
    generalize hT' : (graftP f n T).2 = T' at *
    generalize hid : (graftP f n T).1 = id at *
    obtain ⟨m, hm, hmu⟩ := hput.node
    have hpT := hput.grown.at_ _ _ hp1
    have hne : parent.toNat ≠ id := fun e => by have := hput.new; rw [← e, hp1] at this; cases this
    have hnk : id ∉ p.kids := fun h => by
      obtain ⟨q, hq, _⟩ := hW.kid _ _ _ hp1 h
      rw [hput.new] at hq; cases hq
    have hna : ¬ Anc T' parent.toNat id := fun h => by
      have hroot : ∀ i q, Anc T' i id → T.at_ i = some q → False := by
        intro i q h
        generalize hid' : id = o at h
        induction h generalizing q with
        | refl i => intro hq; subst hid'; rw [hput.new] at hq; cases hq
        | @step i p' o n' hi hu _ ih =>
          intro hq
          have := hput.grown.at_ _ _ hq
          rw [hi] at this; cases this
          obtain ⟨q', hq', _⟩ := hW.par _ _ _ hq hu
          exact ih q' hid' hq'
      exact hroot _ _ h hp1
    have h0' : id ≠ 0 := fun e => by
      obtain ⟨q, hq, _⟩ := hW.host
      have := hput.new
      rw [e, hq] at this; cases this
    have hdep' : T'.depthF fuel parent.toNat = T.depthF fuel parent.toNat := by
      refine (depth_congr (T := T) (T' := T') (fun i => ∃ q, T.at_ i = some q) (fun i ⟨q, hq⟩ => ⟨by rw [up_of hq, up_of (hput.grown.at_ _ _ hq)], fun p' hp' => ?_⟩) fuel _ ⟨p, hp1⟩).1
      rw [up_of hq] at hp'
      obtain ⟨q', hq', _⟩ := hW.par _ _ _ hq hp'
      exact ⟨q', hq'⟩
    have hWi : (T'.insertAt parent.toNat pos.toNat id p m).WF := by
      refine hput.wf.insertAt hpT hm ht h0' hmu hna ?_
      rw [hdep', hput.high, hput.grown.dep]
      omega
    have hins : T'.insert parent pos id = (0, T'.insertAt parent.toNat pos.toNat id p m) := by
      have hgp : T'.get parent = some p := by rw [← hp2, get_nat]; exact hpT
      have hgk : T'.get (id : Int) = some m := by rw [get_nat]; exact hm
      unfold DT.insert
      rw [hgp, hgk]
      dsimp only
      rw [if_neg ht, if_neg (by rw [hmu]; simp only [upI, not_or]; omega), if_neg (by rw [Int.toNat_natCast, (hput.wf.within_not hpT _).2 hna]; simp), if_neg (by
        rw [depth_has hgp, height_has hgk, hdep', Int.toNat_natCast, hput.high, hput.grown.dep]; omega)]
      simp
    refine ⟨p, T', id, m, rfl, by omega, by omega, hok, hput, hm, hmu, hpT, hne, hnk, h0', hWi, hins, by rw [← hT', ← hid], ?_⟩
    rw [hins]

theorem WF.graft (hW : T.WF) (parent pos : Int) (n : PNode) : (T.graft f parent pos n).2.WF := by
  rcases hW.graft_spec (f := f) parent pos n with ⟨e, _, h⟩ | ⟨p, T', id, m, _, _, _, _, _, _, _, _, _, _, _, h1, _, _, h2⟩
  · rw [h]; exact hW
  · rw [h2]; exact h1
end DT

/-- A call of chapter 8's statements. -/
structure PCall where
  what : Int
  a : Int
  b : Int
  c : Int
  s : Bytes
  attrs : List (Bytes × Bytes)
  n : PNode

namespace DT
def play1 (f : Bytes → Bytes) (T : DT) (c : PCall) : DT :=
  if c.what % 10 = 2 then (T.text (f c.s)).2
  else if c.what % 10 = 3 ∨ c.what % 10 = 4 then (T.insert c.a c.b c.c).2
  else if c.what % 10 = 5 then (T.remove c.a).2
  else if c.what % 10 = 6 then (T.drop c.a).2
  else if c.what % 10 = 7 then (((T.setAttrs c.a c.attrs).2.setText c.a (f c.s)).2.setTag c.a c.b).2
  else if c.what % 10 = 8 then (T.graft f c.a c.b c.n).2
  else if c.what % 10 = 9 then T
  else (T.element c.a c.attrs).2
def play (f : Bytes → Bytes) (T : DT) (l : List PCall) : DT := l.foldl (play1 f) T

variable {T : DT} {f : Bytes → Bytes}
theorem WF.play1 (hW : T.WF) (c : PCall) : (T.play1 f c).WF := by
  unfold DT.play1
  repeat' split
  · exact hW.text _
  · exact hW.insert _ _ _
  · exact hW.remove _
  · exact hW.drop _
  · exact ((hW.setAttrs _ _).setText _ _).setTag _ _
  · exact hW.graft _ _ _
  · exact hW
  · exact hW.element _ _
theorem WF.play (hW : T.WF) (l : List PCall) : (T.play f l).WF := by
  unfold DT.play
  induction l generalizing T with
  | nil => exact hW
  | cons c l ih => exact ih (hW.play1 c)
end DT
end Go.Proofs.Ytnnjlpkjpbbklaa

-- DomLawQ: The tree as plain data: what the statements of chapter 8 say of it. No program in sight. Conditions: none.
namespace Go.Proofs.Ytnnjlpkjpbbklaa
namespace DT
variable {T : DT} {f : Bytes → Bytes}

theorem upOf_nat {i : Nat} {n : Nd} (h : T.at_ i = some n) : T.upOf (i : Int) = upI n.up := by unfold upOf; rw [get_nat, h]
theorem tagOf_nat {i : Nat} {n : Nd} (h : T.at_ i = some n) : T.tagOf (i : Int) = n.tag := by unfold tagOf; rw [get_nat, h]
theorem kidsOf_nat {i : Nat} {n : Nd} (h : T.at_ i = some n) : T.kidsOf (i : Int) = n.kids := by unfold kidsOf; rw [get_nat, h]
theorem has_some {i : Nat} {n : Nd} (h : T.at_ i = some n) : T.has (i : Int) = true := by rw [has_nat, h]; rfl
theorem depth_nat {i : Nat} {n : Nd} (h : T.at_ i = some n) : T.depth (i : Int) = (T.depthF fuel i : Int) := by unfold depth; rw [has_some h]; simp
theorem height_nat {i : Nat} {n : Nd} (h : T.at_ i = some n) : T.height (i : Int) = (T.heightF fuel i : Int) := by unfold height; rw [has_some h]; simp
theorem plain_nat {i : Nat} {n : Nd} (h : T.at_ i = some n) : T.plain (i : Int) = T.plainF fuel i := by unfold plain; rw [has_some h]; simp
theorem live_nat {i : Nat} {n : Nd} (h : T.at_ i = some n) : T.live (i : Int) = T.within i 0 := by unfold live; rw [has_some h]; simp
theorem WF.live_iff (hW : T.WF) {i : Nat} {n : Nd} (h : T.at_ i = some n) : T.live (i : Int) = true ↔ Anc T i 0 := by rw [live_nat h, hW.within_anc h]
theorem indexOf_root {i : Nat} {n : Nd} (h : T.at_ i = some n) (hu : n.up = none) : T.indexOf (i : Int) = -1 := by
  unfold indexOf
  rw [upOf_nat h, hu]
  rfl
theorem indexOf_kid {i p : Nat} {n m : Nd} (h : T.at_ i = some n) (hu : n.up = some p) (hp : T.at_ p = some m) (hk : i ∈ m.kids) : T.indexOf (i : Int) = (m.kids.idxOf i : Int) := by
  unfold indexOf
  rw [upOf_nat h, hu]
  show (match T.get (p : Int) with | none => _ | some p => _) = _
  rw [get_nat, hp]
  simp [hk]
theorem has_get {id : Int} (h : T.has id = true) : ∃ i : Nat, ∃ n, id = (i : Int) ∧ T.at_ i = some n := by
  unfold has at h
  cases hn : T.get id with
  | none => rw [hn] at h; cases h
  | some n =>
    obtain ⟨h0, h1, h2⟩ := get_some hn
    exact ⟨id.toNat, n, h2.symm, h1⟩
theorem WF.has0 (hW : T.WF) : T.has 0 = true ∧ T.upOf 0 = -1 ∧ T.tagOf 0 = 1 := by
  obtain ⟨m, hm, h1, h2⟩ := hW.host
  have e := upOf_nat hm
  rw [h2] at e
  exact ⟨has_some hm, e, by rw [← h1]; exact tagOf_nat hm⟩
theorem WF.count_cap (hW : T.WF) : (T.count : Int) ≤ T.cap := by
  have h1 : T.count ≤ T.nodes.length := List.countP_le_length
  have := hW.len
  omega

theorem idxOf_getElem {l : List Nat} (h : l.Nodup) (i : Nat) (hi : i < l.length) : l.idxOf l[i] = i := by
  induction l generalizing i with
  | nil => simp at hi
  | cons x l ih =>
    rw [List.nodup_cons] at h
    cases i with
    | zero => simp
    | succ i =>
      simp only [List.length_cons, Nat.add_lt_add_iff_right] at hi
      simp only [List.getElem_cons_succ]
      rw [List.idxOf_cons, show (x == l[i]) = false by simpa using fun e : x = l[i] => h.1 (by rw [e]; exact List.getElem_mem hi), cond_false, ih h.2 i hi]

/-- A kid of a node, as it is told. -/
theorem WF.kid_told (hW : T.WF) {j : Nat} {n : Nd} (hj : T.at_ j = some n) (i : Nat) (hi : i < n.kids.length) :
    T.has (n.kids[i] : Nat) = true ∧ T.upOf (n.kids[i] : Nat) = j ∧ T.indexOf (n.kids[i] : Nat) = i ∧ T.depth (n.kids[i] : Nat) = T.depth j + 1 ∧ T.height (n.kids[i] : Nat) < T.height j ∧ T.live (n.kids[i] : Nat) = T.live j := by
  have hk : n.kids[i] ∈ n.kids := List.getElem_mem hi
  obtain ⟨m, hm, hu, hd⟩ := hW.kid_depth hj hk
  have hh := hW.height_step hj
  have hmx := foldl_max_mem n.kids (fun k => T.heightF fuel k + 1) 0 _ hk
  rw [← hh] at hmx
  refine ⟨has_some hm, by rw [upOf_nat hm, hu]; rfl, ?_, ?_, ?_, ?_⟩
  · rw [indexOf_kid hm hu hj hk, idxOf_getElem (hW.nodup _ _ hj) i hi]
  · rw [depth_nat hm, depth_nat hj, hd]; omega
  · rw [height_nat hm, height_nat hj]; omega
  · rw [live_nat hm, live_nat hj, hW.within_step hm, hu]
    have hne : n.kids[i] ≠ 0 := fun e => by
      obtain ⟨q, hq, _, hqu⟩ := hW.host
      rw [e, hq] at hm; cases hm; rw [hqu] at hu; cases hu
    simp [hne]
/-- A node, as it is told. -/
theorem WF.node_told (hW : T.WF) {j : Nat} {n : Nd} (hj : T.at_ j = some n) :
    (T.upOf j < 0 → T.depth j = 0) ∧ (0 ≤ T.upOf j → T.has (T.upOf j) = true ∧ 0 ≤ T.indexOf j ∧ T.tagOf (T.upOf j) ≠ 0) ∧ T.depth j ≤ T.dep ∧
      T.live j = (decide ((j : Int) = 0) || (decide (0 ≤ T.upOf j) && T.live (T.upOf j))) ∧ (T.tagOf j = 0 → n.kids = []) := by
  obtain ⟨r1, r2, r3⟩ := hW.rank_depth j n hj
  rw [upOf_nat hj, depth_nat hj, tagOf_nat hj]
  cases hu : n.up with
  | none =>
    refine ⟨fun _ => by rw [r1 hu]; rfl, fun h => by simp [upI] at h, r3, ?_, fun h => hW.leaf _ _ hj h⟩
    rw [live_nat hj, hW.within_step hj, hu]
    by_cases e : j = 0
    · subst e; simp
    · simp [e, upI]
  | some p =>
    obtain ⟨m, hm, hk⟩ := hW.par _ _ _ hj hu
    refine ⟨fun h => ?_, fun _ => ⟨has_some hm, ?_, ?_⟩, r3, ?_, fun h => hW.leaf _ _ hj h⟩
    · simp only [upI] at h; omega
    · rw [indexOf_kid hj hu hm hk]; omega
    · show T.tagOf (p : Int) ≠ 0
      rw [tagOf_nat hm]
      intro e
      rw [hW.leaf _ _ hm e] at hk
      cases hk
    · show _ = (_ || (decide (0 ≤ (p : Int)) && T.live (p : Int)))
      rw [live_nat hj, live_nat hm, hW.within_step hj, hu]
      by_cases e : j = 0
      · subst e; simp
      · simp [e]

/-! ### DomApart -/
theorem WF.plain0 (hW : T.WF) {T' : DT} (hW' : T'.WF) {o : Nat} (ho : ∀ i n, T.at_ i = some n → ¬ Anc T o i → (T'.at_ i).map Nd.low = some n.low) (hx : ¬ Anc T o 0) : T'.plain 0 = T.plain 0 := by
  obtain ⟨m, hm, _⟩ := hW.host
  obtain ⟨m', hm', _⟩ := hW'.host
  have h1 := plain_nat hm
  have h2 := plain_nat hm'
  have h3 := (hW.plain_apart ho fuel 0 ⟨m, hm⟩ hx).1
  exact h2.trans (h3.trans h1.symm)
theorem WF.put_apart (hW : T.WF) {i : Nat} {n : Nd} (hi : T.at_ i = some n) (n' : Nd) (hW' : (T.put i (some n')).WF) (hl : T.live i = false) : (T.put i (some n')).plain 0 = T.plain 0 := by
  refine hW.plain0 hW' (o := i) (fun j m hj hx => ?_) fun h => ?_
  · rw [at_put_ne _ (fun e : j = i => hx (e ▸ .refl _)), hj]; rfl
  · rw [(hW.live_iff hi).2 h] at hl; cases hl
theorem WF.setAttrs_apart (hW : T.WF) {id : Int} (hl : T.live id = false) (al : List (Bytes × Bytes)) : (T.setAttrs id al).2.plain 0 = T.plain 0 := by
  have hW' := hW.setAttrs id al
  unfold DT.setAttrs at hW' ⊢
  cases hn : T.get id with
  | none => rfl
  | some n =>
    obtain ⟨_, h1, h2⟩ := get_some hn
    rw [hn] at hW'
    dsimp only at hW' ⊢
    split
    · rfl
    · rename_i ht
      rw [if_neg ht] at hW'
      exact hW.put_apart h1 _ hW' (by rw [h2]; exact hl)
theorem WF.setText_apart (hW : T.WF) {id : Int} (hl : T.live id = false) (s : Bytes) : (T.setText id s).2.plain 0 = T.plain 0 := by
  have hW' := hW.setText id s
  unfold DT.setText at hW' ⊢
  cases hn : T.get id with
  | none => rfl
  | some n =>
    obtain ⟨_, h1, h2⟩ := get_some hn
    rw [hn] at hW'
    dsimp only at hW' ⊢
    split
    · rfl
    · rename_i ht
      rw [if_neg ht] at hW'
      split
      · rfl
      · rename_i hs
        rw [if_neg hs] at hW'
        exact hW.put_apart h1 _ hW' (by rw [h2]; exact hl)
theorem WF.setTag_apart (hW : T.WF) {id : Int} (hl : T.live id = false) (tag : Int) : (T.setTag id tag).2.plain 0 = T.plain 0 := by
  have hW' := hW.setTag id tag
  unfold DT.setTag at hW' ⊢
  cases hn : T.get id with
  | none => rfl
  | some n =>
    obtain ⟨_, h1, h2⟩ := get_some hn
    rw [hn] at hW'
    dsimp only at hW' ⊢
    split
    · rfl
    · rename_i ht
      rw [if_neg ht] at hW'
      split
      · rfl
      · rename_i hs
        rw [if_neg hs] at hW'
        exact hW.put_apart h1 _ hW' (by rw [h2]; exact hl)
theorem WF.remove_apart (hW : T.WF) {id : Int} (hl : T.live id = false) : (T.remove id).2.plain 0 = T.plain 0 := by
  rcases remove_cases hW id with ⟨_, e⟩ | ⟨n, _, _, e⟩ | ⟨n, up, p, hn, hu, hp, _, e⟩
  · rw [e]
  · rw [e]
  · obtain ⟨_, h1, h2⟩ := get_some hn
    have hW' := hW.removeAt h1 hu hp
    rw [e]
    refine hW.plain0 hW' (hW.remove_low h1 hu hp) fun h => ?_
    rw [← h2, (hW.live_iff h1).2 (.step h1 hu h)] at hl
    cases hl
/-- A node loose from the host is not live any more when only it was changed. -/
theorem live_put {i : Nat} {n n' : Nd} (hi : T.at_ i = some n) (hu : n'.up = n.up) (id : Int) : (T.put i (some n')).live id = T.live id := by
  have hat : ∀ j, ((T.put i (some n')).at_ j).isSome = (T.at_ j).isSome := fun j => by
    by_cases e : j = i
    · subst e; rw [at_put_same hi, hi]; rfl
    · rw [at_put_ne _ e]
  have hup : ∀ j, (T.put i (some n')).up j = T.up j := fun j => by
    unfold up
    by_cases e : j = i
    · subst e; rw [at_put_same hi, hi]; exact hu
    · rw [at_put_ne _ e]
  unfold live has get within
  have hw := (depth_congr (T := T) (T' := T.put i (some n')) (fun _ => True) (fun j _ => ⟨hup j, fun _ _ => trivial⟩) fuel id.toNat trivial).2 0
  rw [hw]
  by_cases h : id < 0
  · simp [h]
  · rw [if_neg h, if_neg h, hat]
theorem setText_live (id : Int) (s : Bytes) (i : Int) : (T.setText id s).2.live i = T.live i := by
  unfold DT.setText
  cases hn : T.get id with
  | none => rfl
  | some n =>
    obtain ⟨_, h1, _⟩ := get_some hn
    dsimp only
    split
    · rfl
    · split
      · rfl
      · exact live_put h1 (n' := { n with text := s }) rfl i
theorem setAttrs_live (id : Int) (al : List (Bytes × Bytes)) (i : Int) : (T.setAttrs id al).2.live i = T.live i := by
  unfold DT.setAttrs
  cases hn : T.get id with
  | none => rfl
  | some n =>
    obtain ⟨_, h1, _⟩ := get_some hn
    dsimp only
    split
    · rfl
    · exact live_put h1 (n' := { n with attrs := al }) rfl i
theorem setTag_live (id tag : Int) (i : Int) : (T.setTag id tag).2.live i = T.live i := by
  unfold DT.setTag
  cases hn : T.get id with
  | none => rfl
  | some n =>
    obtain ⟨_, h1, _⟩ := get_some hn
    dsimp only
    split
    · rfl
    · split
      · rfl
      · exact live_put h1 (n' := { n with tag := tag }) rfl i

/-! ### DomBack -/
theorem WF.back1 (hW : T.WF) {id : Int} (h : T.has id = true) (hu : 0 ≤ T.upOf id) :
    (T.remove id).1 = 0 ∧ (T.remove id).2.upOf id = -1 ∧ (T.remove id).2.indexOf id = -1 ∧ (T.remove id).2.depth id = 0 ∧ (T.remove id).2.plain id = T.plain id ∧ (T.remove id).2.insert (T.upOf id) (T.indexOf id) id = (0, T) := by
  obtain ⟨i, n, rfl, hi⟩ := has_get h
  rw [upOf_nat hi] at hu
  obtain ⟨up, hup⟩ : ∃ up, n.up = some up := by
    cases hx : n.up with
    | none => rw [hx] at hu; simp [upI] at hu
    | some p => exact ⟨p, rfl⟩
  obtain ⟨p, hp, hm⟩ := hW.par _ _ _ hi hup
  have hR : T.remove (i : Int) = (0, T.removeAt i up n p) := by
    rcases remove_cases hW (i : Int) with ⟨hn, _⟩ | ⟨n', hn, h1, _⟩ | ⟨n', up', p', hn, h1, h2, h3, e⟩
    · rw [get_nat, hi] at hn; cases hn
    · rw [get_nat, hi] at hn; cases hn; rw [hup] at h1; cases h1
    · rw [get_nat, hi] at hn; cases hn
      rw [hup] at h1; cases h1
      rw [hp] at h2; cases h2
      rw [e]; simp
  rw [hR]
  have hW' := hW.removeAt hi hup hp
  have hne := hW.up_ne hi hup
  have hii : (T.removeAt i up n p).at_ i = some { n with up := none } := by rw [at_removeAt hi hp, if_pos rfl]
  have hpp : (T.removeAt i up n p).at_ up = some { p with kids := p.kids.erase i } := by rw [at_removeAt hi hp, if_neg hne, if_pos rfl]
  refine ⟨rfl, by rw [upOf_nat hii]; rfl, indexOf_root hii rfl, by rw [depth_nat hii, hW'.depth_root hii rfl]; rfl, ?_, ?_⟩
  · rw [plain_nat hii, plain_nat hi, (hW.remove_self hi hup hp fuel).1]
  · rw [upOf_nat hi, hup, indexOf_kid hi hup hp hm]
    have htag : p.tag ≠ 0 := fun e => by rw [hW.leaf _ _ hp e] at hm; cases hm
    have h0 : i ≠ 0 := fun e => by
      obtain ⟨q, hq, _, hqu⟩ := hW.host
      rw [e, hq] at hi; cases hi; rw [hqu] at hup; cases hup
    have hlen : p.kids.idxOf i ≤ (p.kids.erase i).length := by
      have := List.idxOf_lt_length_iff.2 hm
      rw [List.length_erase_of_mem hm]; omega
    have hna : ¬ Anc (T.removeAt i up n p) up i := fun hx => by
      have : Anc T up i := anc_mono (T := T.removeAt i up n p) (fun j m hj hu' => by
        rw [at_removeAt hi hp] at hj
        split at hj
        · cases hj; exact absurd rfl hu'
        · split at hj
          · rename_i e; subst e; cases hj; exact ⟨p, hp, rfl⟩
          · exact ⟨m, hj, rfl⟩) hx
      exact hW.no_loop hi hup this
    have hdep : (T.removeAt i up n p).depthF fuel up = T.depthF fuel up := by
      refine (depth_congr (T := T) (T' := T.removeAt i up n p) (fun j => ¬ Anc T j i) (fun j hj => ⟨?_, fun q hq => ?_⟩) fuel up (hW.no_loop hi hup)).1
      · have e : j ≠ i := fun e => hj (e ▸ .refl _)
        unfold DT.up
        rw [at_removeAt hi hp, if_neg e]
        split
        · rename_i e'; rw [e', hp]; rfl
        · rfl
      · intro hx
        cases hj' : T.at_ j with
        | none => rw [DT.up, hj'] at hq; cases hq
        | some m =>
          rw [up_of hj'] at hq
          exact hj (.step hj' hq hx)
    have hhe := (hW.remove_self hi hup hp fuel).2
    have hins : (T.removeAt i up n p).insert (upI (some up)) (p.kids.idxOf i : Int) (i : Int) = (0, (T.removeAt i up n p).insertAt up (p.kids.idxOf i) i { p with kids := p.kids.erase i } { n with up := none }) := by
      unfold DT.insert
      show (match (T.removeAt i up n p).get (up : Int), (T.removeAt i up n p).get (i : Int) with | some p, some k => _ | _, _ => _) = _
      rw [get_nat, get_nat, hpp, hii]
      dsimp only
      rw [if_neg htag, if_neg (by simp only [upI, not_or]; omega), if_neg (by
        show ¬ ((T.removeAt i up n p).within (upI (some up)).toNat (i : Int).toNat = true)
        rw [Int.toNat_natCast]
        show ¬ ((T.removeAt i up n p).within ((up : Nat) : Int).toNat i = true)
        rw [Int.toNat_natCast, (hW'.within_not hpp _).2 hna]; simp), if_neg (by
        show ¬ ((T.removeAt i up n p).dep < (T.removeAt i up n p).depth ((up : Nat) : Int) + 1 + (T.removeAt i up n p).height (i : Int))
        rw [depth_nat hpp, height_nat hii, hdep, hhe]
        have h1 := hW.height_dep hi
        have h2 := hW.depth_up hi hup
        show ¬ (T.dep < _)
        omega)]
      show (0, (T.removeAt i up n p).insertAt ((up : Nat) : Int).toNat ((p.kids.idxOf i : Nat) : Int).toNat ((i : Nat) : Int).toNat _ _) = _
      simp only [Int.toNat_natCast]
    rw [hins, insert_remove hi hup hp hne hm]

theorem WF.back2 (hW : T.WF) {parent pos id : Int} (h : (T.insert parent pos id).1 = 0) :
    (T.insert parent pos id).2.upOf id = parent ∧ (T.insert parent pos id).2.indexOf id = pos ∧ (T.insert parent pos id).2.plain id = T.plain id ∧ (T.insert parent pos id).2.remove id = (0, T) := by
  have hW' := hW.insert parent pos id
  obtain ⟨p, k, hp, hk, h1, h2, h3, h4, h5, h6, h7, h8⟩ := insert_ok h
  rw [h8] at hW' ⊢
  obtain ⟨p0, hp1, hp2⟩ := get_some hp
  obtain ⟨k0, hk1, hk2⟩ := get_some hk
  have hna := (hW.within_not hp1 _).1 h6
  have hne : parent.toNat ≠ id.toNat := fun e => hna (e ▸ .refl _)
  have hkp : id.toNat ∉ p.kids := fun hx => by
    obtain ⟨m, hm, e⟩ := hW.kid _ _ _ hp1 hx
    rw [hk1] at hm; cases hm; rw [h3] at e; cases e
  generalize hi : id.toNat = i at *
  generalize hj : parent.toNat = j at *
  subst hk2 hp2
  have hii : (T.insertAt j pos.toNat i p k).at_ i = some { k with up := some j } := by rw [at_insertAt hp1 hk1, if_pos rfl]
  have hjj : (T.insertAt j pos.toNat i p k).at_ j = some { p with kids := p.kids.take pos.toNat ++ (i :: p.kids.drop pos.toNat) } := by rw [at_insertAt hp1 hk1, if_neg hne, if_pos rfl]
  have hmem : i ∈ p.kids.take pos.toNat ++ (i :: p.kids.drop pos.toNat) := mem_ins.2 (.inl rfl)
  refine ⟨by rw [upOf_nat hii]; rfl, ?_, ?_, ?_⟩
  · rw [indexOf_kid hii rfl hjj hmem]
    have : (p.kids.take pos.toNat ++ (i :: p.kids.drop pos.toNat)).idxOf i = pos.toNat := by
      rw [List.idxOf_append, if_neg (fun h => hkp (List.mem_of_mem_take h))]
      simp; omega
    show ((p.kids.take pos.toNat ++ (i :: p.kids.drop pos.toNat)).idxOf i : Int) = pos
    rw [this]; omega
  · rw [plain_nat hii, plain_nat hk1, (insert_plain hW hp1 hk1 ⟨k, hk1⟩ hna fuel).1]
  · rcases remove_cases hW' (i : Int) with ⟨hn, _⟩ | ⟨n', hn, h1, _⟩ | ⟨n', up', p', hn, hu', h2', h3', e⟩
    · rw [get_nat, hii] at hn; cases hn
    · rw [get_nat, hii] at hn; cases hn; cases h1
    · rw [get_nat, hii] at hn; cases hn
      cases hu'
      rw [hjj] at h2'; cases h2'
      rw [e, Int.toNat_natCast, remove_insert hp1 hk1 hne h3 hkp]

/-! ### DomGrafts -/
theorem WF.grafts (hW : T.WF) (parent pos : Int) (n : PNode) :
    (∃ e, e ≠ 0 ∧ T.graft f parent pos n = ((0, e), T)) ∨
    ∃ (id : Nat) (T1 T2 T3 : DT), T.graft f parent pos n = (((id : Int), 0), T1) ∧ T1.plain id = n.turned f ∧ (T1.count : Int) = T.count + n.size ∧ T1.upOf id = parent ∧ T1.indexOf id = pos ∧
      T1.remove id = (0, T2) ∧ T2.upOf id = -1 ∧ T2.plain id = n.turned f ∧ T2.drop id = (0, T3) ∧ T3.has id = false ∧ T3.count = T.count ∧ T3.plain 0 = T.plain 0 ∧ T1.WF ∧ T2.WF ∧ T3.WF := by
  rcases hW.graft_spec (f := f) parent pos n with h | ⟨p, T', id, m, hp, h0, hl, hok, hput, hm, hmu, hpT, hne, hnk, hid0, hWi, hins, hgp, hg⟩
  · exact .inl h
  right
  have h1 : (T'.insert parent pos id).1 = 0 := by rw [hins]
  obtain ⟨b1, b2, b3, b4⟩ := hput.wf.back2 h1
  rw [hins] at b1 b2 b3 b4
  have hpl : T'.plain (id : Int) = n.turned f := by rw [plain_nat hm, hput.plain]
  have hd : T'.drop (id : Int) = (0, T'.dropped id) := by
    unfold DT.drop
    rw [get_nat, hm]
    dsimp only
    rw [if_neg (by rw [hmu]; simp only [upI, not_or]; omega)]
    simp
  have hWd := hput.wf.dropped hm hmu hid0
  have hroot : ∀ i q, Anc T' i id → T.at_ i = some q → False := by
    intro i q h
    generalize hid' : id = o at h
    induction h generalizing q with
    | refl i => intro hq; subst hid'; rw [hput.new] at hq; cases hq
    | @step i p' o n' hi hu _ ih =>
      intro hq
      have := hput.grown.at_ _ _ hq
      rw [hi] at this; cases this
      obtain ⟨q', hq', _⟩ := hW.par _ _ _ hq hu
      exact ih q' hid' hq'
  have hat : ∀ j, (T'.dropped id).at_ j = T.at_ j := by
    intro j
    cases hj : T.at_ j with
    | some q => exact (hput.wf.at_dropped _ _).2 ⟨hput.grown.at_ _ _ hj, fun h => hroot _ _ h hj⟩
    | none =>
      cases hj' : (T'.dropped id).at_ j with
      | none => rfl
      | some q =>
        obtain ⟨a1, a2⟩ := (hput.wf.at_dropped _ _).1 hj'
        exact absurd (hput.within _ _ a1 hj) a2
  refine ⟨id, _, T', T'.dropped id, hg, b3.trans hpl, ?_, b1, b2, b4, by rw [upOf_nat hm, hmu]; rfl, hpl, hd, ?_, count_grown fun j => by rw [hat j], ?_, hWi, hput.wf, hWd⟩
  · rw [count_insertAt hpT hm hne, hput.count]; omega
  · rw [has_nat, hat, hput.new]; rfl
  · obtain ⟨q, hq, _⟩ := hW.host
    have hq' : (T'.dropped id).at_ 0 = some q := by rw [hat, hq]
    have h1 := plain_nat hq
    have h2 := plain_nat hq'
    have h3 := (plain_congr (T := T) (T' := T'.dropped id) (fun _ => True) (fun i _ => ⟨by rw [hat], fun _ _ _ _ => trivial⟩) fuel 0 trivial).1
    exact h2.trans (h3.trans h1.symm)
end DT
end Go.Proofs.Ytnnjlpkjpbbklaa

-- Ord: The order of a tree's nodes, as plain data: what is beside a node, all within. No program in sight. Conditions: none.
namespace Go.Proofs.Ytnnjlpkjpbbklaa
namespace DT
variable {T : DT}

def kidsAt (T : DT) (i : Nat) : List Nat := match T.at_ i with | some n => n.kids | none => []
theorem kidsAt_eq {i : Nat} {n : Nd} (h : T.at_ i = some n) : T.kidsAt i = n.kids := by unfold kidsAt; rw [h]

def behindF (T : DT) : Nat → Nat → Option Nat
  | 0, _ => none
  | f + 1, i => match T.up i with
    | none => none
    | some p => ((T.kidsAt p)[(T.kidsAt p).idxOf i + 1]?).or (behindF T f p)
def behindO (T : DT) (i : Nat) : Option Nat := T.behindF fuel i
def nextO (T : DT) (i : Nat) : Option Nat := ((T.kidsAt i).head?).or (T.behindO i)
def lastF (T : DT) : Nat → Nat → Nat
  | 0, i => i
  | f + 1, i => match (T.kidsAt i).getLast? with
    | none => i
    | some k => lastF T f k
def last (T : DT) (i : Nat) : Nat := T.lastF fuel i
def prevO (T : DT) (i : Nat) : Option Nat := match T.up i with
  | none => none
  | some p => match (T.kidsAt p).idxOf i with
    | 0 => some p
    | j + 1 => some (T.last ((T.kidsAt p).getD j 0))
def allF (T : DT) : Nat → Nat → List Nat
  | 0, _ => []
  | f + 1, i => i :: (T.kidsAt i).flatMap (allF T f)
def all_ (T : DT) (i : Nat) : List Nat := T.allF fuel i
def all (T : DT) (id : Int) : List Nat := if T.has id then T.all_ id.toNat else []

/-- Each element's next is the one behind it in the row; the last one's is e. -/
def Run (nx : Nat → Option Nat) (e : Option Nat) : List Nat → Prop
  | [] => True
  | x :: xs => nx x = (xs.head?).or e ∧ Run nx e xs
theorem run_append {nx : Nat → Option Nat} {e : Option Nat} (a b : List Nat) : Run nx e (a ++ b) ↔ Run nx ((b.head?).or e) a ∧ Run nx e b := by
  induction a with
  | nil => simp [Run]
  | cons x xs ih =>
    simp only [List.cons_append, Run, ih, List.head?_append, Option.or_assoc, and_assoc]
/-- Each element's prev is the one ahead of it in the row; the first one's is e. -/
def Prun (pv : Nat → Option Nat) : Option Nat → List Nat → Prop
  | _, [] => True
  | e, x :: xs => pv x = e ∧ Prun pv (some x) xs
theorem getLast?_cons_or (x : Nat) (xs : List Nat) (e : Option Nat) : ((x :: xs).getLast?).or e = (xs.getLast?).or (some x) := by
  cases xs with
  | nil => simp
  | cons y ys => simp [List.getLast?_cons]
theorem prun_append {pv : Nat → Option Nat} (a b : List Nat) : ∀ e, Prun pv e (a ++ b) ↔ Prun pv e a ∧ Prun pv ((a.getLast?).or e) b := by
  induction a with
  | nil => intro e; simp [Prun]
  | cons x xs ih =>
    intro e
    simp only [List.cons_append, Prun, ih, getLast?_cons_or, and_assoc]
theorem Run.at {nx : Nat → Option Nat} {e : Option Nat} : ∀ (l : List Nat) (j : Nat) (hj : j < l.length), Run nx e l → nx l[j] = (l[j + 1]?).or e
  | [], j, hj, _ => by simp at hj
  | x :: xs, 0, _, h => by
    have := h.1
    simp only [List.getElem_cons_zero]
    rw [this, List.getElem?_cons_succ]
    cases xs <;> rfl
  | x :: xs, j + 1, hj, h => by
    simp only [List.length_cons, Nat.add_lt_add_iff_right] at hj
    simp only [List.getElem_cons_succ, List.getElem?_cons_succ]
    exact Run.at xs j hj h.2
theorem Prun.at {pv : Nat → Option Nat} : ∀ (l : List Nat) (e : Option Nat) (j : Nat) (hj : j + 1 < l.length), Prun pv e l → pv l[j + 1] = some l[j]
  | [], _, j, hj, _ => by simp at hj
  | [x], _, j, hj, _ => by simp at hj
  | x :: y :: xs, _, 0, _, h => by simpa using h.2.1
  | x :: y :: xs, e, j + 1, hj, h => by
    simp only [List.length_cons, Nat.add_lt_add_iff_right] at hj
    simp only [List.getElem_cons_succ]
    exact Prun.at (y :: xs) (some x) j (by simpa using hj) h.2

theorem WF.behind_enough (h : T.WF) : ∀ f g i n, T.at_ i = some n → T.depthF fuel i < f → T.depthF fuel i < g → T.behindF f i = T.behindF g i := by
  intro f
  induction f with
  | zero => intro g i n _ hf; omega
  | succ f ih =>
    intro g i n hi hf hg
    obtain ⟨g, rfl⟩ : ∃ k, g = k + 1 := ⟨g - 1, by omega⟩
    unfold behindF
    rw [up_of hi]
    cases hu : n.up with
    | none => rfl
    | some p =>
      obtain ⟨m, hm, _⟩ := h.par i n p hi hu
      have hd := h.depth_up hi hu
      dsimp only
      rw [ih g p m hm (by omega) (by omega)]
theorem WF.behind_root (h : T.WF) {i : Nat} {n : Nd} (hi : T.at_ i = some n) (hu : n.up = none) : T.behindO i = none := by
  show T.behindF (63 + 1) i = none
  unfold behindF
  rw [up_of hi, hu]
theorem WF.behind_up (h : T.WF) {i p : Nat} {n m : Nd} (hi : T.at_ i = some n) (hu : n.up = some p) (hp : T.at_ p = some m) : T.behindO i = (m.kids[m.kids.idxOf i + 1]?).or (T.behindO p) := by
  have h1 := h.depth_le hi
  have h2 := h.depth_up hi hu
  have e : T.behindF 63 p = T.behindO p := h.behind_enough _ _ p m hp (by omega) (by unfold fuel at *; omega)
  show T.behindF (63 + 1) i = _
  unfold behindF
  rw [up_of hi, hu]
  dsimp only
  rw [e, kidsAt_eq hp]
theorem WF.next_eq (h : T.WF) {i : Nat} {n : Nd} (hi : T.at_ i = some n) : T.nextO i = (n.kids.head?).or (T.behindO i) := by
  unfold nextO; rw [kidsAt_eq hi]

theorem WF.last_enough (h : T.WF) : ∀ f g i n, T.at_ i = some n → 41 ≤ f + T.depthF fuel i → 41 ≤ g + T.depthF fuel i → T.lastF f i = T.lastF g i := by
  intro f
  induction f with
  | zero => intro g i n hi hf hg; have := h.depth_le hi; omega
  | succ f ih =>
    intro g i n hi hf hg
    have hd := h.depth_le hi
    obtain ⟨g, rfl⟩ : ∃ k, g = k + 1 := ⟨g - 1, by omega⟩
    unfold lastF
    rw [kidsAt_eq hi]
    cases hk : n.kids.getLast? with
    | none => rfl
    | some k =>
      have hkm : k ∈ n.kids := List.mem_of_getLast? hk
      obtain ⟨m, hm, _, he⟩ := h.kid_depth hi hkm
      exact ih g k m hm (by omega) (by omega)
theorem WF.last_step (h : T.WF) {i : Nat} {n : Nd} (hi : T.at_ i = some n) : T.last i = match n.kids.getLast? with | none => i | some k => T.last k := by
  show T.lastF (63 + 1) i = _
  unfold lastF
  rw [kidsAt_eq hi]
  cases hk : n.kids.getLast? with
  | none => rfl
  | some k =>
    have hkm : k ∈ n.kids := List.mem_of_getLast? hk
    obtain ⟨m, hm, _, he⟩ := h.kid_depth hi hkm
    exact h.last_enough 63 fuel k m hm (by omega) (by unfold fuel; omega)
theorem WF.all_enough (h : T.WF) : ∀ f g i n, T.at_ i = some n → 41 ≤ f + T.depthF fuel i → 41 ≤ g + T.depthF fuel i → T.allF f i = T.allF g i := by
  intro f
  induction f with
  | zero => intro g i n hi hf hg; have := h.depth_le hi; omega
  | succ f ih =>
    intro g i n hi hf hg
    have hd := h.depth_le hi
    obtain ⟨g, rfl⟩ : ∃ k, g = k + 1 := ⟨g - 1, by omega⟩
    unfold allF
    rw [kidsAt_eq hi]
    congr 1
    have : ∀ (ks : List Nat), (∀ k ∈ ks, k ∈ n.kids) → ks.flatMap (T.allF f) = ks.flatMap (T.allF g) := by
      intro ks
      induction ks with
      | nil => intro _; rfl
      | cons k ks ih2 =>
        intro hks
        obtain ⟨m, hm, _, he⟩ := h.kid_depth hi (hks k (by simp))
        rw [List.flatMap_cons, List.flatMap_cons, ih g k m hm (by omega) (by omega), ih2 fun x hx => hks x (by simp [hx])]
    exact this n.kids fun _ hk => hk
theorem flatMap_congr {l : List Nat} {f g : Nat → List Nat} (h : ∀ k ∈ l, f k = g k) : l.flatMap f = l.flatMap g := by
  induction l with
  | nil => rfl
  | cons k l ih => rw [List.flatMap_cons, List.flatMap_cons, h k (by simp), ih fun x hx => h x (by simp [hx])]
theorem WF.all_step (h : T.WF) {i : Nat} {n : Nd} (hi : T.at_ i = some n) : T.all_ i = i :: n.kids.flatMap T.all_ := by
  show T.allF (63 + 1) i = _
  unfold allF
  rw [kidsAt_eq hi]
  congr 1
  refine flatMap_congr fun k hk => ?_
  obtain ⟨m, hm, _, he⟩ := h.kid_depth hi hk
  exact h.all_enough 63 fuel k m hm (by omega) (by unfold fuel; omega)
theorem all_nat {i : Nat} {n : Nd} (hi : T.at_ i = some n) : T.all (i : Int) = T.all_ i := by unfold all; rw [has_some hi]; simp

/-- Induction from the leaves on. -/
theorem WF.ind (h : T.WF) {P : Nat → Nd → Prop} (hP : ∀ i n, T.at_ i = some n → (∀ k ∈ n.kids, ∀ m, T.at_ k = some m → m.up = some i → P k m) → P i n) : ∀ i n, T.at_ i = some n → P i n := by
  have key : ∀ d i n, T.at_ i = some n → 40 ≤ d + T.depthF fuel i → P i n := by
    intro d
    induction d with
    | zero =>
      intro i n hi hd
      refine hP i n hi fun k hk m hm hu => ?_
      obtain ⟨m', hm', _, he⟩ := h.kid_depth hi hk
      have := h.depth_le hm'
      omega
    | succ d ih =>
      intro i n hi hd
      refine hP i n hi fun k hk m hm hu => ?_
      obtain ⟨m', hm', _, he⟩ := h.kid_depth hi hk
      exact ih k m hm (by omega)
  intro i n hi
  exact key 40 i n hi (by omega)

theorem WF.run (h : T.WF) : ∀ i n, T.at_ i = some n → Run T.nextO (T.behindO i) (T.all_ i) ∧ (T.all_ i).head? = some i ∧ Prun T.prevO (T.prevO i) (T.all_ i) ∧ (T.all_ i).getLast? = some (T.last i) := by
  refine h.ind fun i n hi ih => ?_
  have hnd := h.nodup i n hi
  rw [h.all_step hi]
  have key : ∀ (ks l : List Nat), n.kids = l ++ ks → Run T.nextO (T.behindO i) (ks.flatMap T.all_) ∧ (ks.flatMap T.all_).head? = ks.head? ∧
      Prun T.prevO (some (match l.getLast? with | none => i | some q => T.last q)) (ks.flatMap T.all_) ∧ (ks ≠ [] → (ks.flatMap T.all_).getLast? = some (T.last i)) := by
    intro ks
    induction ks with
    | nil => intro l _; exact ⟨trivial, rfl, trivial, fun h => (h rfl).elim⟩
    | cons k r ih2 =>
      intro l hl
      obtain ⟨r1, r2, r3, r4⟩ := ih2 (l ++ [k]) (by rw [hl]; simp)
      have hk : k ∈ n.kids := by rw [hl]; simp
      obtain ⟨m, hm, hu⟩ := h.kid i n k hi hk
      obtain ⟨k1, k2, k3, k4⟩ := ih k hk m hm hu
      have hidx : n.kids.idxOf k = l.length := by
        have := idxOf_getElem hnd l.length (by rw [hl]; simp)
        simpa [hl] using this
      have hb : T.behindO k = (r.head?).or (T.behindO i) := by
        rw [h.behind_up hm hu hi, hidx, hl]
        congr 1
        rw [List.getElem?_append_right (by omega)]
        simp only [Nat.add_sub_cancel_left, List.getElem?_cons_succ]
        cases r <;> rfl
      have hp : T.prevO k = some (match l.getLast? with | none => i | some q => T.last q) := by
        unfold prevO
        rw [up_of hm, hu]
        dsimp only
        rw [kidsAt_eq hi, hidx]
        cases hl' : l.length with
        | zero =>
          have : l = [] := List.length_eq_zero_iff.1 hl'
          subst this
          rfl
        | succ j =>
          dsimp only
          have e : l.getLast? = some (n.kids.getD j 0) := by
            rw [List.getLast?_eq_getElem?, hl', hl, Nat.add_sub_cancel]
            simp only [List.getD]
            rw [List.getElem?_append_left (by omega), List.getElem?_eq_getElem (by omega)]
            rfl
          rw [e]
      rw [List.flatMap_cons]
      refine ⟨(run_append _ _).2 ⟨by rw [r2, ← hb]; exact k1, r1⟩, by rw [List.head?_append, k2]; rfl, (prun_append _ _ _).2 ⟨by rw [← hp]; exact k3, ?_⟩, fun _ => ?_⟩
      · rw [k4]
        simp only [List.getLast?_append, List.getLast?_singleton, Option.some_or] at r3
        exact r3
      · cases r with
        | nil =>
          rw [List.flatMap_nil, List.append_nil, k4, h.last_step hi, hl]
          simp
        | cons k' r' =>
          have := r4 (by simp)
          rw [List.getLast?_append, this]
          rfl
  obtain ⟨a1, a2, a3, a4⟩ := key n.kids [] rfl
  refine ⟨⟨by rw [h.next_eq hi, a2], a1⟩, rfl, ⟨rfl, a3⟩, ?_⟩
  cases hk : n.kids with
  | nil => rw [h.last_step hi, hk]; rfl
  | cons k r =>
    have := a4 (by rw [hk]; simp)
    rw [hk] at this
    rw [List.getLast?_cons, this]
    rfl

theorem WF.all_self (h : T.WF) {i : Nat} {n : Nd} (hi : T.at_ i = some n) : i ∈ T.all_ i := by rw [h.all_step hi]; simp
theorem WF.mem_kid (h : T.WF) : ∀ i n, T.at_ i = some n → ∀ x k q, x ∈ T.all_ i → T.at_ x = some q → k ∈ q.kids → k ∈ T.all_ i := by
  refine h.ind fun i n hi ih => ?_
  intro x k q hx hq hk
  rw [h.all_step hi] at hx ⊢
  rcases List.mem_cons.1 hx with rfl | hx
  · rw [hi] at hq; cases hq
    obtain ⟨m, hm, _⟩ := h.kid _ _ _ hi hk
    exact List.mem_cons_of_mem _ (List.mem_flatMap.2 ⟨k, hk, h.all_self hm⟩)
  · obtain ⟨c, hc, hx⟩ := List.mem_flatMap.1 hx
    obtain ⟨m, hm, hu⟩ := h.kid _ _ _ hi hc
    exact List.mem_cons_of_mem _ (List.mem_flatMap.2 ⟨c, hc, ih c hc m hm hu x k q hx hq hk⟩)
theorem WF.all_anc (h : T.WF) : ∀ i n, T.at_ i = some n → ∀ j ∈ T.all_ i, (∃ m, T.at_ j = some m) ∧ Anc T j i := by
  refine h.ind fun i n hi ih => ?_
  intro j hj
  rw [h.all_step hi] at hj
  rcases List.mem_cons.1 hj with rfl | hj
  · exact ⟨⟨n, hi⟩, .refl _⟩
  · obtain ⟨c, hc, hj⟩ := List.mem_flatMap.1 hj
    obtain ⟨m, hm, hu⟩ := h.kid _ _ _ hi hc
    obtain ⟨a, b⟩ := ih c hc m hm hu j hj
    exact ⟨a, b.trans (.step hm hu (.refl _))⟩
theorem WF.mem_all (h : T.WF) {i : Nat} {n : Nd} (hi : T.at_ i = some n) (j : Nat) : j ∈ T.all_ i ↔ Anc T j i := by
  refine ⟨fun hj => (h.all_anc i n hi j hj).2, fun ha => ?_⟩
  induction ha with
  | refl => exact h.all_self hi
  | step hj hu ha ih =>
    obtain ⟨m, hm, hk⟩ := h.par _ _ _ hj hu
    exact h.mem_kid _ _ hi _ _ m (ih hi) hm hk
theorem WF.anc_total (h : T.WF) {j a b : Nat} (ha : Anc T j a) (hb : Anc T j b) : Anc T a b ∨ Anc T b a := by
  induction ha with
  | refl => exact .inl hb
  | step hj hu ha ih =>
    rcases hb.step_inv hj hu with rfl | hb
    · exact .inr (.step hj hu ha)
    · exact ih hb
theorem WF.anc_same (h : T.WF) {j a b : Nat} {m n : Nd} (ha : Anc T j a) (hb : Anc T j b) (hm : T.at_ a = some m) (hn : T.at_ b = some n) (hd : T.depthF fuel a = T.depthF fuel b) : a = b := by
  rcases h.anc_total ha hb with k | k
  · exact (h.anc_depth hm k).2.2 hd
  · exact ((h.anc_depth hn k).2.2 hd.symm).symm
theorem WF.all_nodup (h : T.WF) : ∀ i n, T.at_ i = some n → (T.all_ i).Nodup := by
  refine h.ind fun i n hi ih => ?_
  rw [h.all_step hi, List.nodup_cons]
  refine ⟨fun hm => ?_, ?_⟩
  · obtain ⟨c, hc, hj⟩ := List.mem_flatMap.1 hm
    obtain ⟨m, hm, hu⟩ := h.kid _ _ _ hi hc
    have ha := (h.all_anc c m hm i hj).2
    have := h.anc_depth hi ha
    have := h.depth_up hm hu
    omega
  · have key : ∀ ks : List Nat, ks.Nodup → (∀ k ∈ ks, k ∈ n.kids) → (ks.flatMap T.all_).Nodup := by
      intro ks
      induction ks with
      | nil => intro _ _; simp
      | cons k r ih2 =>
        intro hnd hks
        rw [List.nodup_cons] at hnd
        obtain ⟨m, hm, hu⟩ := h.kid _ _ _ hi (hks k (by simp))
        rw [List.flatMap_cons, List.nodup_append]
        refine ⟨ih k (hks k (by simp)) m hm hu, ih2 hnd.2 fun x hx => hks x (by simp [hx]), ?_⟩
        intro x hx y hy e
        subst e
        obtain ⟨c, hc, hy⟩ := List.mem_flatMap.1 hy
        obtain ⟨m', hm', hu'⟩ := h.kid _ _ _ hi (hks c (by simp [hc]))
        have a1 := (h.all_anc k m hm x hx).2
        have a2 := (h.all_anc c m' hm' x hy).2
        have := h.anc_same a1 a2 hm hm' (by rw [h.depth_up hm hu, h.depth_up hm' hu'])
        subst this
        exact hnd.1 hc
    exact key n.kids (h.nodup i n hi) fun _ hk => hk
theorem WF.up_root (h : T.WF) {i : Nat} {n : Nd} (hi : T.at_ i = some n) : Anc T i (T.root i) ∧ ∃ m, T.at_ (T.root i) = some m ∧ m.up = none := by
  have key : ∀ d i n, T.at_ i = some n → T.depthF fuel i = d → Anc T i (T.root i) ∧ ∃ m, T.at_ (T.root i) = some m ∧ m.up = none := by
    intro d
    induction d with
    | zero =>
      intro i n hi hd
      rw [h.root_step hi]
      cases hu : n.up with
      | none => exact ⟨.refl _, n, hi, hu⟩
      | some p => have := h.depth_up hi hu; omega
    | succ d ih =>
      intro i n hi hd
      rw [h.root_step hi]
      cases hu : n.up with
      | none => exact ⟨.refl _, n, hi, hu⟩
      | some p =>
        have := h.depth_up hi hu
        obtain ⟨m, hm, _⟩ := h.par _ _ _ hi hu
        obtain ⟨a, b⟩ := ih p m hm (by omega)
        exact ⟨.step hi hu a, b⟩
  exact key _ i n hi rfl
theorem WF.anc_root (h : T.WF) {i o : Nat} {n m : Nd} (hi : T.at_ i = some n) (ha : Anc T i o) (ho : T.at_ o = some m) : T.root i = T.root o := by
  obtain ⟨a1, m1, hm1, hu1⟩ := h.up_root hi
  obtain ⟨a2, m2, hm2, hu2⟩ := h.up_root ho
  have a3 := ha.trans a2
  rcases h.anc_total a1 a3 with k | k
  · exact k.root hm1 hu1
  · exact (k.root hm2 hu2).symm
end DT
end Go.Proofs.Ytnnjlpkjpbbklaa

-- Ord2: Paths in a tree, and the order of places, as plain data. No program in sight. Conditions: none.
namespace Go.Proofs.Ytnnjlpkjpbbklaa

/-- A place in a tree. -/
structure Pl where
  node : Int
  at_ : Int
deriving DecidableEq

/-- Rows of numbers, the lesser first. -/
def cmpL : List Int → List Int → Int
  | [], [] => 0
  | [], _ :: _ => -1
  | _ :: _, [] => 1
  | x :: xs, y :: ys => if x < y then -1 else if y < x then 1 else cmpL xs ys

theorem cmpL_bd : ∀ (a b : List Int), cmpL a b = -1 ∨ cmpL a b = 0 ∨ cmpL a b = 1
  | [], [] => by simp [cmpL]
  | [], _ :: _ => by simp [cmpL]
  | _ :: _, [] => by simp [cmpL]
  | x :: xs, y :: ys => by
    unfold cmpL
    split
    · simp
    · split
      · simp
      · exact cmpL_bd xs ys
theorem cmpL_anti : ∀ (a b : List Int), cmpL a b = -cmpL b a
  | [], [] => by simp [cmpL]
  | [], _ :: _ => by simp [cmpL]
  | _ :: _, [] => by simp [cmpL]
  | x :: xs, y :: ys => by
    unfold cmpL
    have := cmpL_anti xs ys
    split
    · rw [if_neg (show ¬ y < x by omega)]
    · split
      · rfl
      · exact this
theorem cmpL_self (a : List Int) : cmpL a a = 0 := by have := cmpL_anti a a; omega
theorem cmpL_eq : ∀ (a b : List Int), cmpL a b = 0 → a = b
  | [], [], _ => rfl
  | [], _ :: _, h => by simp [cmpL] at h
  | _ :: _, [], h => by simp [cmpL] at h
  | x :: xs, y :: ys, h => by
    unfold cmpL at h
    split at h
    · omega
    · split at h
      · omega
      · rw [cmpL_eq xs ys h, show x = y by omega]
theorem cmpL_app (p a b : List Int) : cmpL (p ++ a) (p ++ b) = cmpL a b := by
  induction p with
  | nil => rfl
  | cons x p ih => simp [cmpL, ih]
theorem cmpL_trans : ∀ (a b c : List Int), cmpL a b ≤ 0 → cmpL b c ≤ 0 → cmpL a c ≤ 0 ∧ (cmpL a c = 0 → cmpL a b = 0 ∧ cmpL b c = 0)
  | [], [], c, _, h2 => by refine ⟨h2, fun h => ⟨by simp [cmpL], h⟩⟩
  | [], _ :: _, [], _, h2 => by simp [cmpL] at h2
  | [], _ :: _, _ :: _, _, _ => by simp [cmpL]
  | _ :: _, [], _, h1, _ => by simp [cmpL] at h1
  | _ :: _, _ :: _, [], _, h2 => by simp [cmpL] at h2
  | x :: xs, y :: ys, z :: zs, h1, h2 => by
    have ih := cmpL_trans xs ys zs
    unfold cmpL at h1 h2 ⊢
    by_cases a1 : x < y
    · have hz : ¬ z < y := fun hz => by rw [if_neg (show ¬ y < z by omega), if_pos hz] at h2; omega
      rw [if_pos (show x < z by omega)]
      simp
    · rw [if_neg a1] at h1 ⊢
      by_cases a2 : y < x
      · rw [if_pos a2] at h1; omega
      · rw [if_neg a2] at h1 ⊢
        have e : x = y := by omega
        subst e
        by_cases b1 : x < z
        · rw [if_pos b1]; simp
        · rw [if_neg b1] at h2 ⊢
          by_cases b2 : z < x
          · rw [if_pos b2] at h2; omega
          · rw [if_neg b2] at h2 ⊢
            rw [if_neg b1, if_neg b2]
            exact ih h1 h2
/-- Rows that part. -/
theorem cmpL_part (p : List Int) {x y : Int} (h : x ≠ y) (a b : List Int) : cmpL (p ++ x :: a) (p ++ y :: b) = if x < y then -1 else 1 := by
  rw [cmpL_app]
  unfold cmpL
  split
  · rfl
  · rw [if_pos (by omega)]
theorem part_of : ∀ (a b : List Nat), ¬ a <+: b → ¬ b <+: a → ∃ p x y a' b', a = p ++ x :: a' ∧ b = p ++ y :: b' ∧ x ≠ y
  | [], b, h, _ => (h ⟨b, rfl⟩).elim
  | a, [], _, h => (h ⟨a, rfl⟩).elim
  | x :: a, y :: b, h1, h2 => by
    by_cases e : x = y
    · subst e
      obtain ⟨p, x', y', a', b', e1, e2, e3⟩ := part_of a b (fun h => h1 (by simpa using h)) (fun h => h2 (by simpa using h))
      exact ⟨x :: p, x', y', a', b', by rw [e1]; rfl, by rw [e2]; rfl, e3⟩
    · exact ⟨[], x, y, a, b, rfl, rfl, e⟩

namespace DT
variable {T : DT}
def pathF (T : DT) : Nat → Nat → List Nat
  | 0, _ => []
  | f + 1, i => match T.up i with
    | none => []
    | some p => pathF T f p ++ [(T.kidsAt p).idxOf i]
def path_ (T : DT) (i : Nat) : List Nat := T.pathF fuel i
def path (T : DT) (id : Int) : List Nat := if T.has id then T.path_ id.toNat else []
theorem WF.path_enough (h : T.WF) : ∀ f g i n, T.at_ i = some n → T.depthF fuel i < f → T.depthF fuel i < g → T.pathF f i = T.pathF g i := by
  intro f
  induction f with
  | zero => intro g i n _ hf; omega
  | succ f ih =>
    intro g i n hi hf hg
    obtain ⟨g, rfl⟩ : ∃ k, g = k + 1 := ⟨g - 1, by omega⟩
    unfold pathF
    rw [up_of hi]
    cases hu : n.up with
    | none => rfl
    | some p =>
      obtain ⟨m, hm, _⟩ := h.par i n p hi hu
      have hd := h.depth_up hi hu
      dsimp only
      rw [ih g p m hm (by omega) (by omega)]
theorem WF.path_root (h : T.WF) {i : Nat} {n : Nd} (hi : T.at_ i = some n) (hu : n.up = none) : T.path_ i = [] := by
  show T.pathF (63 + 1) i = _
  unfold pathF
  rw [up_of hi, hu]
theorem WF.path_up (h : T.WF) {i p : Nat} {n m : Nd} (hi : T.at_ i = some n) (hu : n.up = some p) (hp : T.at_ p = some m) : T.path_ i = T.path_ p ++ [m.kids.idxOf i] := by
  have h1 := h.depth_le hi
  have h2 := h.depth_up hi hu
  have e : T.pathF 63 p = T.path_ p := h.path_enough 63 fuel p m hp (by omega) (by unfold fuel at *; omega)
  show T.pathF (63 + 1) i = _
  unfold pathF
  rw [up_of hi, hu]
  dsimp only
  rw [e, kidsAt_eq hp]
theorem path_nat {i : Nat} {n : Nd} (hi : T.at_ i = some n) : T.path (i : Int) = T.path_ i := by unfold path; rw [has_some hi]; simp
theorem WF.path_len (h : T.WF) {i : Nat} {n : Nd} (hi : T.at_ i = some n) : (T.path_ i).length = T.depthF fuel i := by
  have key : ∀ d i n, T.at_ i = some n → T.depthF fuel i = d → (T.path_ i).length = d := by
    intro d
    induction d with
    | zero =>
      intro i n hi hd
      cases hu : n.up with
      | none => rw [h.path_root hi hu]; rfl
      | some p => have := h.depth_up hi hu; omega
    | succ d ih =>
      intro i n hi hd
      cases hu : n.up with
      | none => have := h.depth_root hi hu; omega
      | some p =>
        have := h.depth_up hi hu
        obtain ⟨m, hm, _⟩ := h.par _ _ _ hi hu
        rw [h.path_up hi hu hm, List.length_append, ih p m hm (by omega)]
        rfl
  exact key _ i n hi rfl

/-- Where a path leads. -/
def findL (T : DT) : Nat → List Int → Option Nat
  | r, [] => some r
  | r, i :: l => if i < 0 then none else match (T.kidsAt r)[i.toNat]? with
    | none => none
    | some k => findL T k l
def find (T : DT) (r : Int) (l : List Int) : Option Nat := if T.has r then T.findL r.toNat l else none
theorem findL_append (a b : List Int) : ∀ r, T.findL r (a ++ b) = (T.findL r a).bind fun k => T.findL k b := by
  induction a with
  | nil => intro r; rfl
  | cons i a ih =>
    intro r
    simp only [List.cons_append, findL]
    split
    · rfl
    · cases (T.kidsAt r)[i.toNat]? with
      | none => rfl
      | some k => exact ih k
def ofNats (l : List Nat) : List Int := l.map fun (k : Nat) => (k : Int)
theorem ofNats_append (a b : List Nat) : ofNats (a ++ b) = ofNats a ++ ofNats b := by simp [ofNats]
theorem idxOf_get {l : List Nat} {k : Nat} (h : k ∈ l) : l[l.idxOf k]? = some k := by
  have hl : l.idxOf k < l.length := List.idxOf_lt_length_of_mem h
  rw [List.getElem?_eq_getElem hl, List.getElem_idxOf]
theorem WF.find_path (h : T.WF) {i : Nat} {n : Nd} (hi : T.at_ i = some n) : T.findL (T.root i) (ofNats (T.path_ i)) = some i := by
  have key : ∀ d i n, T.at_ i = some n → T.depthF fuel i = d → T.findL (T.root i) (ofNats (T.path_ i)) = some i := by
    intro d
    induction d with
    | zero =>
      intro i n hi hd
      cases hu : n.up with
      | none => rw [h.path_root hi hu, h.root_step hi, hu]; rfl
      | some p => have := h.depth_up hi hu; omega
    | succ d ih =>
      intro i n hi hd
      cases hu : n.up with
      | none => have := h.depth_root hi hu; omega
      | some p =>
        have := h.depth_up hi hu
        obtain ⟨m, hm, hk⟩ := h.par _ _ _ hi hu
        rw [h.path_up hi hu hm, h.root_step hi, hu, ofNats_append, findL_append]
        dsimp only
        rw [ih p m hm (by omega)]
        simp only [Option.bind_some, ofNats, List.map_cons, List.map_nil, findL]
        rw [if_neg (by omega), kidsAt_eq hm, Int.toNat_natCast, idxOf_get hk]
  exact key _ i n hi rfl
/-- Where a path leads from a node lies within it, and its own path is that. -/
theorem WF.findL_down (h : T.WF) : ∀ (l : List Int) (r : Nat) (n : Nd) (j : Nat), T.at_ r = some n → T.findL r l = some j → Anc T j r ∧ (∃ m, T.at_ j = some m) ∧ ofNats (T.path_ j) = ofNats (T.path_ r) ++ l := by
  intro l
  induction l with
  | nil => intro r n j hr hj; simp [findL] at hj; subst hj; exact ⟨.refl _, ⟨n, hr⟩, by simp⟩
  | cons i l ih =>
    intro r n j hr hj
    simp only [findL] at hj
    split at hj
    · cases hj
    rename_i hi0
    rw [kidsAt_eq hr] at hj
    cases hk : n.kids[i.toNat]? with
    | none => rw [hk] at hj; cases hj
    | some k =>
      rw [hk] at hj
      dsimp only at hj
      have hlt : i.toNat < n.kids.length := by
        rcases Nat.lt_or_ge i.toNat n.kids.length with h | h
        · exact h
        · rw [List.getElem?_eq_none h] at hk; cases hk
      have hke : n.kids[i.toNat] = k := by rw [List.getElem?_eq_getElem hlt] at hk; exact Option.some.inj hk
      have hkm : k ∈ n.kids := by rw [← hke]; exact List.getElem_mem hlt
      obtain ⟨m, hm, hu⟩ := h.kid _ _ _ hr hkm
      obtain ⟨a, b, c⟩ := ih k m j hm hj
      refine ⟨a.trans (.step hm hu (.refl _)), b, ?_⟩
      rw [c, h.path_up hm hu hr, ofNats_append]
      have : n.kids.idxOf k = i.toNat := by rw [← hke]; exact idxOf_getElem (h.nodup _ _ hr) _ hlt
      rw [this]
      simp only [ofNats, List.map_cons, List.map_nil, List.append_assoc, List.singleton_append]
      congr 2
      omega
theorem WF.path_anc (h : T.WF) {j i : Nat} {n m : Nd} (hj : T.at_ j = some m) (hi : T.at_ i = some n) (hr : T.root j = T.root i) : T.path_ i <+: T.path_ j ↔ Anc T j i := by
  refine ⟨?_, fun ha => ?_⟩
  · rintro ⟨l, e⟩
    have h1 := h.find_path hj
    have h2 := h.find_path hi
    rw [← e, ofNats_append, findL_append, hr, h2] at h1
    exact (h.findL_down _ i n j hi h1).1
  · clear hi hr
    induction ha generalizing m with
    | refl => exact List.prefix_refl _
    | step hj' hu ha ih =>
      rw [hj] at hj'; cases hj'
      obtain ⟨q, hq, _⟩ := h.par _ _ _ hj hu
      rw [h.path_up hj hu hq]
      exact (ih hq).trans (List.prefix_append _ _)
theorem ofNats_inj {a b : List Nat} (h : ofNats a = ofNats b) : a = b := by
  induction a generalizing b with
  | nil => cases b <;> simp [ofNats] at h ⊢
  | cons x a ih =>
    cases b with
    | nil => simp [ofNats] at h
    | cons y b =>
      simp only [ofNats, List.map_cons, List.cons.injEq] at h
      rw [ih h.2, show x = y by omega]
theorem WF.path_inj (h : T.WF) {j i : Nat} {n m : Nd} (hj : T.at_ j = some m) (hi : T.at_ i = some n) (hr : T.root j = T.root i) (hp : T.path_ j = T.path_ i) : j = i := by
  have h1 := h.find_path hj
  rw [hp, hr, h.find_path hi] at h1
  exact (Option.some.inj h1).symm

/-! ### Places -/
variable (c : Bytes → Nat)
/-- How many characters, or kids, a node has; below 0: there is none. c: the characters of a text. -/
def length (T : DT) (id : Int) : Int := match T.get id with
  | none => -1
  | some n => if n.tag = 0 then (c n.text : Int) else (n.kids.length : Int)
def may (T : DT) (p : Pl) : Bool := decide (0 ≤ p.at_) && decide (p.at_ ≤ T.length c p.node)
def clamp (T : DT) (p : Pl) : Pl := if T.has p.node then ⟨p.node, max 0 (min p.at_ (T.length c p.node))⟩ else ⟨0, 0⟩
def key (T : DT) (p : Pl) : List Int := (T.path p.node).map (fun (k : Nat) => 2 * (k : Int) + 1) ++ [2 * p.at_]
def rootI (T : DT) (id : Int) : Nat := T.root id.toNat
def cmp (T : DT) (a b : Pl) : Int × Bool := if T.may c a && T.may c b && T.rootI a.node == T.rootI b.node then (cmpL (T.key a) (T.key b), true) else (0, false)
def isWithin (T : DT) (id outer : Int) : Bool := T.has id && decide (0 ≤ outer) && T.within id.toNat outer.toNat

variable {c}
theorem length_none {id : Int} (h : T.get id = none) : T.length c id = -1 := by unfold length; rw [h]
theorem length_nonneg {id : Int} (h : T.has id = true) : 0 ≤ T.length c id := by
  obtain ⟨i, n, rfl, hi⟩ := has_get h
  unfold length
  rw [get_nat, hi]
  dsimp only
  split <;> omega
theorem may_has {p : Pl} (h : T.may c p = true) : T.has p.node = true ∧ 0 ≤ p.at_ ∧ p.at_ ≤ T.length c p.node := by
  simp only [may, Bool.and_eq_true, decide_eq_true_eq] at h
  refine ⟨?_, h⟩
  cases hg : T.get p.node with
  | none => rw [length_none hg] at h; omega
  | some n => unfold has; rw [hg]; rfl
theorem may_get {p : Pl} (h : T.may c p = true) : ∃ i : Nat, ∃ n, p.node = (i : Int) ∧ T.at_ i = some n ∧ 0 ≤ p.at_ ∧ p.at_ ≤ T.length c (i : Int) := by
  obtain ⟨h1, h2, h3⟩ := may_has h
  obtain ⟨i, n, e, hi⟩ := has_get h1
  exact ⟨i, n, e, hi, h2, by rw [← e]; exact h3⟩
theorem key_nat {p : Pl} {i : Nat} {n : Nd} (e : p.node = (i : Int)) (hi : T.at_ i = some n) : T.key p = (T.path_ i).map (fun (k : Nat) => 2 * (k : Int) + 1) ++ [2 * p.at_] := by unfold key; rw [e, path_nat hi]
theorem rootI_nat {p : Pl} {i : Nat} (e : p.node = (i : Int)) : T.rootI p.node = T.root i := by unfold rootI; rw [e, Int.toNat_natCast]
theorem isWithin_nat {i o : Nat} {n : Nd} (hi : T.at_ i = some n) : T.isWithin (i : Int) (o : Int) = T.within i o := by unfold isWithin; rw [has_some hi]; simp

/-- The way down from an outer node to one within it: its kid on the way. -/
theorem WF.way (h : T.WF) {i o : Nat} {n m : Nd} (hi : T.at_ i = some n) (ho : T.at_ o = some m) (ha : Anc T i o) (hne : i ≠ o) :
    ∃ k q rest mk, k ∈ m.kids ∧ T.at_ k = some mk ∧ mk.up = some o ∧ m.kids.idxOf k = q ∧ Anc T i k ∧ T.path_ i = T.path_ o ++ q :: rest := by
  induction ha generalizing n with
  | refl => exact (hne rfl).elim
  | @step i p o n' hj hu ha ih =>
    rw [hi] at hj; cases hj
    obtain ⟨q, hq, hk⟩ := h.par _ _ _ hi hu
    by_cases e : p = o
    · subst e
      rw [ho] at hq; cases hq
      exact ⟨i, _, [], _, hk, hi, hu, rfl, .refl _, by rw [h.path_up hi hu ho]⟩
    · obtain ⟨k, x, rest, mk, a1, a2, a3, a4, a5, a6⟩ := ih hq ho e
      exact ⟨k, x, rest ++ [q.kids.idxOf i], mk, a1, a2, a3, a4, .step hi hu a5, by rw [h.path_up hi hu hq, a6]; simp⟩
theorem Anc.idx {i o k : Nat} {m mk : Nd} (ho : T.at_ o = some m) (hk : T.at_ k = some mk) (hu : mk.up = some o) (hkm : k ∈ m.kids) : T.indexOf (k : Int) = (m.kids.idxOf k : Int) := indexOf_kid hk hu ho hkm

/-! ### What Cmp tells, case by case -/
theorem WF.cmp_same (a b : Pl) (e : a.node = b.node) : cmpL (T.key a) (T.key b) = if a.at_ < b.at_ then -1 else if b.at_ < a.at_ then 1 else 0 := by
  unfold key
  rw [e, cmpL_app]
  unfold cmpL
  by_cases h1 : a.at_ < b.at_
  · rw [if_pos h1, if_pos (by omega)]
  · rw [if_neg h1, if_neg (by omega)]
    by_cases h2 : b.at_ < a.at_
    · rw [if_pos h2, if_pos (by omega)]
    · rw [if_neg h2, if_neg (by omega)]; rfl
theorem key_down {a b : Pl} {q : Nat} {rest : List Nat} {i j : Nat} {n m : Nd} (ea : a.node = (i : Int)) (eb : b.node = (j : Int)) (hi : T.at_ i = some n) (hj : T.at_ j = some m) (hp : T.path_ j = T.path_ i ++ q :: rest) :
    cmpL (T.key a) (T.key b) = if a.at_ ≤ (q : Int) then -1 else 1 := by
  rw [key_nat ea hi, key_nat eb hj, hp]
  simp only [List.map_append, List.map_cons, List.append_assoc, List.cons_append]
  rw [cmpL_part _ (by omega)]
  by_cases h : a.at_ ≤ (q : Int)
  · rw [if_pos h, if_pos (by omega)]
  · rw [if_neg h, if_neg (by omega)]
theorem key_apart {a b : Pl} {i j : Nat} {n m : Nd} (ea : a.node = (i : Int)) (eb : b.node = (j : Int)) (hi : T.at_ i = some n) (hj : T.at_ j = some m) (h1 : ¬ T.path_ i <+: T.path_ j) (h2 : ¬ T.path_ j <+: T.path_ i) :
    cmpL (T.key a) (T.key b) = cmpL (ofNats (T.path_ i)) (ofNats (T.path_ j)) := by
  obtain ⟨p, x, y, a', b', e1, e2, e3⟩ := part_of _ _ h1 h2
  rw [key_nat ea hi, key_nat eb hj, e1, e2]
  simp only [List.map_append, List.map_cons, List.append_assoc, List.cons_append, ofNats]
  rw [cmpL_part _ (by omega), cmpL_part _ (by omega)]
  by_cases h : x < y
  · rw [if_pos (by omega), if_pos (by omega)]
  · rw [if_neg (by omega), if_neg (by omega)]

theorem cmp_ok {a b : Pl} (h : (T.cmp c a b).2 = true) : T.may c a = true ∧ T.may c b = true ∧ T.rootI a.node = T.rootI b.node ∧ (T.cmp c a b).1 = cmpL (T.key a) (T.key b) := by
  unfold cmp at h ⊢
  split at h
  · rename_i h1
    simp only [Bool.and_eq_true, beq_iff_eq] at h1
    rw [if_pos (by simp [h1])]
    exact ⟨h1.1.1, h1.1.2, h1.2, rfl⟩
  · cases h
theorem cmp_yes {a b : Pl} (h1 : T.may c a = true) (h2 : T.may c b = true) (h3 : T.rootI a.node = T.rootI b.node) : T.cmp c a b = (cmpL (T.key a) (T.key b), true) := by
  unfold cmp
  rw [h1, h2, h3]
  simp
theorem cmp_no {a b : Pl} (h : (T.cmp c a b).2 = false) : T.cmp c a b = (0, false) := by
  unfold cmp at h ⊢
  split at h
  · cases h
  · rename_i h1; rw [if_neg h1]
theorem WF.key_inj (h : T.WF) {a b : Pl} (h1 : T.may c a = true) (h2 : T.may c b = true) (h3 : T.rootI a.node = T.rootI b.node) (hk : T.key a = T.key b) : a = b := by
  obtain ⟨i, n, ea, hi, _⟩ := may_get h1
  obtain ⟨j, m, eb, hj, _⟩ := may_get h2
  rw [key_nat ea hi, key_nat eb hj] at hk
  obtain ⟨k1, k2⟩ := List.append_inj' hk rfl
  have hp : T.path_ i = T.path_ j := by
    have : ∀ (l l' : List Nat), l.map (fun (k : Nat) => 2 * (k : Int) + 1) = l'.map (fun (k : Nat) => 2 * (k : Int) + 1) → l = l' := by
      intro l
      induction l with
      | nil => intro l' hl; cases l' <;> simp at hl ⊢
      | cons x l ih =>
        intro l' hl
        cases l' with
        | nil => simp at hl
        | cons y l' =>
          simp only [List.map_cons, List.cons.injEq] at hl
          rw [ih l' hl.2, show x = y by omega]
    exact this _ _ k1
  have e := h.path_inj hi hj (by rw [← rootI_nat ea, ← rootI_nat eb]; exact h3) hp
  cases a with
  | mk an aa =>
    cases b with
    | mk bn ba =>
      simp only at ea eb
      subst ea eb
      subst e
      simp only [List.cons.injEq, and_true] at k2
      simp only [Pl.mk.injEq, true_and]
      omega

/-- OrderTotal's plain law. -/
theorem WF.cmp_total (h : T.WF) (a b d : Pl) : (T.cmp c a b).2 = (T.cmp c b a).2 ∧ (T.cmp c a b).1 = -(T.cmp c b a).1 ∧ ((T.cmp c a b).2 = true → ((T.cmp c a b).1 = 0 ↔ a = b)) ∧
    ((T.cmp c a b).2 = true → (T.cmp c b d).2 = true → (T.cmp c a d).2 = true ∧ ¬ ((T.cmp c a b).1 ≤ 0 ∧ (T.cmp c b d).1 ≤ 0 ∧ 0 < (T.cmp c a d).1) ∧ ¬ ((T.cmp c a b).1 < 0 ∧ (T.cmp c b d).1 ≤ 0 ∧ 0 ≤ (T.cmp c a d).1)) := by
  have e2 : (T.cmp c a b).2 = (T.cmp c b a).2 := by
    unfold cmp
    have : (T.may c a && T.may c b && T.rootI a.node == T.rootI b.node) = (T.may c b && T.may c a && T.rootI b.node == T.rootI a.node) := by
      rw [Bool.and_comm (T.may c a), BEq.comm (a := T.rootI a.node)]
    rw [this]
    split <;> rfl
  refine ⟨e2, ?_, ?_, ?_⟩
  · cases hc : (T.cmp c a b).2 with
    | true =>
      rw [(cmp_ok hc).2.2.2, (cmp_ok (a := b) (b := a) (by rw [← e2, hc])).2.2.2]
      exact cmpL_anti _ _
    | false =>
      rw [cmp_no hc, cmp_no (a := b) (b := a) (by rw [← e2, hc])]
      rfl
  · intro hc
    obtain ⟨h1, h2, h3, h4⟩ := cmp_ok hc
    rw [h4]
    exact ⟨fun e => h.key_inj h1 h2 h3 (cmpL_eq _ _ e), fun e => by rw [e]; exact cmpL_self _⟩
  · intro hc hd
    obtain ⟨h1, h2, h3, h4⟩ := cmp_ok hc
    obtain ⟨g1, g2, g3, g4⟩ := cmp_ok hd
    have e := cmp_yes h1 g2 (h3.trans g3)
    rw [h4, g4, e]
    refine ⟨rfl, ?_, ?_⟩
    · rintro ⟨x1, x2, x3⟩
      have := cmpL_trans _ _ _ x1 x2
      dsimp only at x3
      omega
    · rintro ⟨x1, x2, x3⟩
      have := cmpL_trans _ _ _ (Int.le_of_lt x1) x2
      dsimp only at x3
      have h0 := this.2 (by omega)
      omega
/-- A node's first place is ahead of all within it, its last behind. -/
theorem WF.cmp_ends (h : T.WF) {a : Pl} {o : Int} (ha : T.may c a = true) (hw : T.isWithin a.node o = true) (hne : a.node ≠ o) :
    T.cmp c ⟨o, 0⟩ a = (-1, true) ∧ T.cmp c ⟨o, T.length c o⟩ a = (1, true) := by
  obtain ⟨i, n, ea, hi, _⟩ := may_get ha
  simp only [isWithin, Bool.and_eq_true, decide_eq_true_eq] at hw
  obtain ⟨⟨_, h0⟩, hw⟩ := hw
  obtain ⟨o, rfl⟩ : ∃ k : Nat, o = k := ⟨o.toNat, by omega⟩
  rw [ea, Int.toNat_natCast, Int.toNat_natCast, h.within_anc hi] at hw
  obtain ⟨m, hm⟩ := hw.here h hi
  have hne' : i ≠ o := fun e => hne (by rw [ea, e])
  obtain ⟨k, q, rest, mk, a1, a2, a3, a4, a5, a6⟩ := h.way hi hm hw hne'
  have hr : T.rootI (o : Int) = T.rootI a.node := by rw [rootI_nat ea]; unfold rootI; rw [Int.toNat_natCast, h.anc_root hi hw hm]
  have hq : q < m.kids.length := by rw [← a4]; exact List.idxOf_lt_length_of_mem a1
  have hl : T.length c (o : Int) = m.kids.length := by
    unfold length
    rw [get_nat, hm]
    dsimp only
    rw [if_neg (fun e => by have := h.leaf _ _ hm e; rw [this] at a1; cases a1)]
  have m1 : T.may c ⟨(o : Int), 0⟩ = true := by simp [may, hl]
  have m2 : T.may c ⟨(o : Int), T.length c (o : Int)⟩ = true := by simp [may, hl]
  rw [cmp_yes m1 ha hr, cmp_yes m2 ha hr, key_down (i := o) (j := i) rfl ea hm hi a6, key_down (i := o) (j := i) rfl ea hm hi a6]
  dsimp only
  rw [if_pos (by omega), if_neg (by omega)]
  exact ⟨rfl, rfl⟩
end DT
end Go.Proofs.Ytnnjlpkjpbbklaa
