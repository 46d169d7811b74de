/-
  Package dom: Insert, Remove and Drop, walked. Conditions: the tree lies in memory and is sound.
-/
import Derived.Ground.Names2Prog
import Derived.Shelf.Slices.Cells
import Derived.Shelf.Spec.SlicesInsert
import Derived.Shelf.Spec.SlicesInsertGrow
import Derived.Test.YtnnjlpkjpbbklaaMemB
import Derived.Test.YtnnjlpkjpbbklaaPureDom
import Derived.Laws.EntriesVeiled
-- Slices: slices.Insert and slices.Delete at []int (laid by the shelf's commands at this program: plain words), over rows of a tree's own. Conditions: none.
set_option linter.unusedVariables false
set_option linter.unusedSimpArgs false
namespace Go.Proofs.Ytnnjlpkjpbbklaa
open Go.RowKit Go.Shelf

def laysInsert_ren : Go.Shelf.Ren := ⟨fun | 21 => 116 | 27 => 169 | 28 => 170 | 35 => 185 | 39 => 150 | n => n, fun | 22 => 81 | 3 => 3 | 4 => 4 | 0 => 0 | n => n, fun | n => n⟩
theorem laysInsert : Go.Proofs.Lays2.n21 Try.prog laysInsert_ren := {
  mixed := by kernel_rfl
  f21 := Try.func116.trans (congrArg some (by kernel_rfl))
  f27 := Try.func169.trans (congrArg some (by kernel_rfl))
  f28 := Try.func170.trans (congrArg some (by kernel_rfl))
  f35 := Try.func185.trans (congrArg some (by kernel_rfl))
  f39 := Try.func150.trans (congrArg some (by kernel_rfl))
  t0 := Try.underlying0
  a0 := Try.isAgg0
  z0 := Try.sizeOf0
  v0 := Try.zeroValue0
  t3 := Try.underlying3
  a3 := Try.isAgg3
  z3 := Try.sizeOf3
  v3 := Try.zeroValue3
  t4 := Try.underlying4
  a4 := Try.isAgg4
  z4 := Try.sizeOf4
  v4 := Try.zeroValue4
  t22 := Try.underlying81
  a22 := Try.isAgg81
  z22 := Try.sizeOf81
  v22 := Try.zeroValue81
  i3 := by kernel_rfl }
def laysDelete_ren : Go.Shelf.Ren := ⟨fun | 23 => 118 | n => n, fun | 22 => 81 | 3 => 3 | 4 => 4 | 0 => 0 | n => n, fun | n => n⟩
theorem laysDelete : Go.Proofs.Lays2.n23 Try.prog laysDelete_ren := {
  mixed := by kernel_rfl
  f23 := Try.func118.trans (congrArg some (by kernel_rfl))
  t0 := Try.underlying0
  a0 := Try.isAgg0
  z0 := Try.sizeOf0
  v0 := Try.zeroValue0
  t3 := Try.underlying3
  a3 := Try.isAgg3
  z3 := Try.sizeOf3
  v3 := Try.zeroValue3
  t4 := Try.underlying4
  a4 := Try.isAgg4
  z4 := Try.sizeOf4
  v4 := Try.zeroValue4
  t22 := Try.underlying81
  a22 := Try.isAgg81
  z22 := Try.sizeOf81
  v22 := Try.zeroValue81
  i3 := by kernel_rfl }

/-- Cells written one behind the other. -/
def wr : Array Value → Nat → List Value → Array Value
  | cs, _, [] => cs
  | cs, o, v :: r => wr (cs.setIfInBounds o v) (o + 1) r
theorem At.setCells {b : Nat} {t : TypeId} : ∀ (vs : List Value) (o : Nat) {w : World} {cs : Array Value}, At w b t cs → At (w.setCells b o vs) b t (wr cs o vs)
  | [], _, _, _, h => h
  | v :: r, o, _, _, h => At.setCells r (o + 1) (h.set o v)
theorem wr_size : ∀ (vs : List Value) (o : Nat) (cs : Array Value), (wr cs o vs).size = cs.size
  | [], _, _ => rfl
  | v :: r, o, cs => by rw [wr, wr_size r]; simp
theorem wr_list : ∀ (vs : List Value) (o : Nat) (cs : Array Value), o + vs.length ≤ cs.size → (wr cs o vs).toList = cs.toList.take o ++ (vs ++ cs.toList.drop (o + vs.length))
  | [], o, cs, _ => by simp [wr]
  | v :: r, o, cs, h => by
    simp only [List.length_cons] at h
    rw [wr, wr_list r (o + 1) _ (by simp; omega)]
    simp only [Array.toList_setIfInBounds, List.length_cons]
    have hl : o < cs.toList.length := by simp; omega
    rw [List.take_set, List.drop_set_of_lt (by omega)]
    rw [List.take_succ_eq_append_getElem hl]
    have e : (List.take o cs.toList).length = o := by simp; omega
    rw [List.set_append_right _ _ (by omega), e]
    rw [show o + 1 + r.length = o + (r.length + 1) by omega, Nat.sub_self]
    simp
theorem setCells_other (b : Nat) : ∀ (vs : List Value) (o : Nat) (w : World) (k : Nat), k ≠ b → (w.setCells b o vs).heap[k]? = w.heap[k]?
  | [], _, _, _, _ => rfl
  | v :: r, o, w, k, h => by rw [World.setCells, setCells_other b r _ _ k h, Below.heap_setCell _ _ _ _ h]
theorem setCells_plain (b : Nat) : ∀ (vs : List Value) (o : Nat) (w : World), (w.setCells b o vs).heap.size = w.heap.size ∧ (w.setCells b o vs).os = w.os ∧ (w.setCells b o vs).tape = w.tape ∧ (w.setCells b o vs).output = w.output
  | [], _, _ => ⟨rfl, rfl, rfl, rfl⟩
  | v :: r, o, w => by
    have h := setCells_plain b r (o + 1) (w.setCell ⟨b, o, none⟩ v)
    rw [World.setCells]
    refine ⟨h.1.trans (World.size_setCell _ _ _), h.2.1, h.2.2.1, h.2.2.2⟩

theorem lst_shift (xs cur : List Value) (n i : Nat) (x : Value) (hx : cur.take n = xs) (hl : xs.length = n) (hi : i ≤ n) (hc : n + 1 ≤ cur.length) :
    ((cur.take (i + 1) ++ (xs.drop i ++ cur.drop (i + 1 + (xs.drop i).length))).take i ++ ([x] ++ (cur.take (i + 1) ++ (xs.drop i ++ cur.drop (i + 1 + (xs.drop i).length))).drop (i + 1))).take (n + 1) = xs.take i ++ (x :: xs.drop i) := by
  have h1 : (cur.take (i + 1) ++ (xs.drop i ++ cur.drop (i + 1 + (xs.drop i).length))).take i = xs.take i := by
    rw [List.take_append_of_le_length (by simp; omega), List.take_take, ← hx, List.take_take, Nat.min_eq_left (by omega), Nat.min_eq_left (by omega)]
  have h2 : (cur.take (i + 1) ++ (xs.drop i ++ cur.drop (i + 1 + (xs.drop i).length))).drop (i + 1) = xs.drop i ++ cur.drop (i + 1 + (xs.drop i).length) := by
    rw [List.drop_append_of_le_length (by simp; omega), List.drop_eq_nil_of_le (by simp; omega)]
    rfl
  rw [h1, h2]
  have e : (xs.take i ++ ([x] ++ (xs.drop i ++ cur.drop (i + 1 + (xs.drop i).length)))) = (xs.take i ++ (x :: xs.drop i)) ++ cur.drop (i + 1 + (xs.drop i).length) := by simp
  rw [e, List.take_append_of_le_length (by simp; omega), List.take_of_length_le (by simp; omega)]

/-- What an inserting call leaves. -/
def RowIns (v : Value) (n : Nat) (ys : List Value) (w : World) (e : Ending) (w' : World) : Prop :=
  ∃ v', e = .returned v' ∧ Row w' 3 1 v' n ys ∧ Only (fun b => v.ownBlock = some b) w w' ∧ ∀ b, v'.ownBlock = some b → v.ownBlock = some b ∨ w.heap.size ≤ b

theorem ints_one {zs : List Int} : ∀ u ∈ zs.map (Value.int .i64), u.oneCell' = true := by
  intro u hu
  obtain ⟨z, _, rfl⟩ := List.mem_map.1 hu
  rfl

/-- In the middle, where there is room. -/
theorem insert_shift {w : World} {g n cap i vb : Nat} {zs : List Int} {x : Int} (h : Row w 3 1 (.slice (some ⟨g, 0, none⟩) n cap) n (zs.map (Value.int .i64))) (hi : i < n) (hroom : n + 1 ≤ cap) (hv : At w vb 3 #[I x]) (hne : vb ≠ g) :
    Calls Try.prog 116 #[.slice (some ⟨g, 0, none⟩) n cap, .int .i64 i, .slice (some ⟨vb, 0, none⟩) 1 1] w (RowIns (.slice (some ⟨g, 0, none⟩) n cap) (n + 1) ((zs.map (Value.int .i64)).take i ++ (I x :: (zs.map (Value.int .i64)).drop i)) w) := by
  have hone := ints_one (zs := zs)
  generalize zs.map (Value.int .i64) = xs at *
  rcases h.2 with ⟨h0, _⟩ | ⟨g', cap', cur, hv', _, hg, hc, hm, hs, ht⟩
  · cases h0
  · cases hv'
    have hxl : xs.length = n := by simpa using h.1
    have hA : At w g 3 cur := hg
    simp only [Nat.mul_one] at hs ht
    have hcell : ∀ j, w.cell? ⟨g, j, none⟩ = cur[j]? := hA.cell
    have hct : ∀ j v, xs[j]? = some v → w.cell? ⟨g, 0 + j, none⟩ = some v := by
      intro j v hj
      rw [Nat.zero_add, hcell j, ← Array.getElem?_toList]
      rw [← ht, List.getElem?_take] at hj
      split at hj
      · exact hj
      · cases hj
    refine (Any2.slices_Insert_int_shift laysInsert g 0 n cap i vb 0 1 1 xs [I x] w hi (by omega) hroom (by unfold maxLen at hm; omega) hne hxl rfl hct (fun j hj => ?_) (fun j hj => by rw [hA.frozen]) (fun j v hj => ?_) hone (by intro v hv'; simp at hv'; rw [hv']; rfl) 3 3 1 cap ?_ ?_ (by omega) (hv.frozen _) (hv.frozen _)).mono ?_
    · rw [hcell, Nat.zero_add, Array.getElem?_eq_getElem (by omega)]; rfl
    · rw [Nat.zero_add, hv.cell]
      cases j with
      | zero => simpa using hj
      | succ j => simp at hj
    · have hv' : w.heap[vb]? = some (.cells #[I x] 3 (0, 0)) := hv
      simp [World.shape?, hv']
    · simp [World.shape?, hg, hs]
    · rintro e w' ⟨rfl, rfl⟩
      have hA1 : At ((w.drew.setCells g (0 + (i + 1)) (xs.drop i)).setCells g (0 + i) [I x]) g 3 (wr (wr cur (0 + (i + 1)) (xs.drop i)) (0 + i) [I x]) := At.setCells _ _ (At.setCells _ _ hA.drew)
      have p1 := setCells_plain g (xs.drop i) (0 + (i + 1)) w.drew
      have p2 := setCells_plain g [I x] (0 + i) (w.drew.setCells g (0 + (i + 1)) (xs.drop i))
      refine ⟨_, rfl, ⟨?_, .inr ⟨g, cap, _, rfl, Nat.zero_le _, hA1, hroom, hm, ?_, ?_⟩⟩, ⟨?_, ?_, ?_, ?_, ?_⟩, fun b hb => .inl hb⟩
      · simp; omega
      · rw [wr_size, wr_size, hs, Nat.mul_one]
      · simp only [Nat.mul_one, Nat.zero_add]
        rw [wr_list _ _ _ (by rw [wr_size]; simp; omega), wr_list _ _ _ (by simp; omega)]
        exact lst_shift xs cur.toList n i (I x) ht hxl (by omega) (by simp; omega)
      · exact p2.2.1.trans p1.2.1
      · exact p2.2.2.1.trans p1.2.2.1
      · exact p2.2.2.2.trans p1.2.2.2
      · exact Nat.le_of_eq (p2.1.trans p1.1).symm
      · intro k hk hn
        have hkg : k ≠ g := fun e => hn (by rw [e]; rfl)
        rw [setCells_other _ _ _ _ _ hkg, setCells_other _ _ _ _ _ hkg]
        rfl
end Go.Proofs.Ytnnjlpkjpbbklaa

-- Slices2: slices.Insert at []int, the other three roads; the four in one; slices.Delete of one element. Conditions: none.
namespace Go.Proofs.Ytnnjlpkjpbbklaa
open Go.RowKit Go.Shelf

theorem insert_end_room {w : World} {g n cap vb : Nat} {zs : List Int} {x : Int} (h : Row w 3 1 (.slice (some ⟨g, 0, none⟩) n cap) n (zs.map (Value.int .i64))) (hroom : n + 1 ≤ cap) (hv : At w vb 3 #[I x]) :
    Calls Try.prog 116 #[.slice (some ⟨g, 0, none⟩) n cap, .int .i64 n, .slice (some ⟨vb, 0, none⟩) 1 1] w (RowIns (.slice (some ⟨g, 0, none⟩) n cap) (n + 1) (zs.map (Value.int .i64) ++ [I x]) w) := by
  generalize zs.map (Value.int .i64) = xs at *
  rcases h.2 with ⟨h0, _⟩ | ⟨g', cap', cur, hv', _, hg, hc, hm, hs, ht⟩
  · cases h0
  · cases hv'
    have hxl : xs.length = n := by simpa using h.1
    have hA : At w g 3 cur := hg
    simp only [Nat.mul_one] at hs ht
    have hcell : ∀ j, w.cell? ⟨g, j, none⟩ = cur[j]? := hA.cell
    refine (Any2.slices_Insert_int_end_room laysInsert g 0 n cap vb 0 1 1 [I x] w (by omega) hroom (by unfold maxLen at hm; omega) rfl (fun j hj => ?_) (fun j hj => by rw [hA.frozen]) (fun j v hj => ?_) (by intro v hv'; simp at hv'; rw [hv']; rfl)).mono ?_
    · rw [hcell, Array.getElem?_eq_getElem (by omega)]; rfl
    · rw [Nat.zero_add, hv.cell]
      cases j with
      | zero => simpa using hj
      | succ j => simp at hj
    · rintro e w' ⟨rfl, rfl⟩
      have hA1 : At (w.setCells g (0 + n) [I x]) g 3 (wr cur (0 + n) [I x]) := At.setCells _ _ hA
      have p1 := setCells_plain g [I x] (0 + n) w
      refine ⟨_, rfl, ⟨?_, .inr ⟨g, cap, _, rfl, Nat.zero_le _, hA1, hroom, hm, ?_, ?_⟩⟩, ⟨p1.2.1, p1.2.2.1, p1.2.2.2, Nat.le_of_eq p1.1.symm, ?_⟩, fun b hb => .inl hb⟩
      · simp; omega
      · rw [wr_size, hs, Nat.mul_one]
      · simp only [Nat.mul_one, Nat.zero_add]
        rw [wr_list _ _ _ (by simp; omega)]
        rw [ht]
        have : (xs ++ ([I x] ++ cur.toList.drop (n + [I x].length))) = (xs ++ [I x]) ++ cur.toList.drop (n + [I x].length) := by simp
        rw [this, List.take_append_of_le_length (by simp; omega), List.take_of_length_le (by simp; omega)]
      · intro k hk hn
        have hkg : k ≠ g := fun e => hn (by rw [e]; rfl)
        rw [setCells_other _ _ _ _ _ hkg]

theorem zeroCells_size (n : Nat) : (Builtin.zeroCells (Value.int .i64 0).cells n).size = n := by
  simp [Builtin.zeroCells, Value.cells]
theorem zero_size (ys : List Value) (c : Nat) {m : Nat} (hl : ys.length = m) (hc : m ≤ c) : (ys.toArray ++ Builtin.zeroCells (Value.int .i64 0).cells (c - m)).size = c := by
  rw [Array.size_append, zeroCells_size]; simp; omega
theorem zero_size2 (ys : List Value) (a b : Nat) : (ys.toArray ++ Builtin.zeroCells (Value.int .i64 0).cells a ++ Builtin.zeroCells (Value.int .i64 0).cells b).size = ys.length + a + b ∧ (ys.toArray ++ Builtin.zeroCells (Value.int .i64 0).cells a ++ Builtin.zeroCells (Value.int .i64 0).cells b).toList.take ys.length = ys := by
  constructor
  · rw [Array.size_append, Array.size_append, zeroCells_size, zeroCells_size]; simp
  · rw [Array.toList_append, Array.toList_append, List.append_assoc, List.take_append_of_le_length (by simp), List.take_of_length_le (by simp)]

theorem below_cells {B b : Nat} {a : World} (hb : B ≤ b) : ∀ (vs : List Value) (o : Nat) (w : World), Below B a w → Below B a (w.setCells b o vs)
  | [], _, _, h => h
  | v :: r, o, _, h => below_cells hb r (o + 1) _ (Below.setCell h hb v)

theorem new_row {w w' : World} {base : Option Addr} {n cap : Nat} {ys : List Value} {cur : Array Value} (hn : n ≤ 1000000) (hA : At w' w.heap.size 3 cur) (hb : Below w.heap.size w w') (hl : ys.length = n + 1)
    (hs : cur.size = grownCap w (n + 1) cap 3) (ht : cur.toList.take (n + 1) = ys) :
    RowIns (.slice base n cap) (n + 1) ys w (.returned (.slice (some ⟨w.heap.size, 0, none⟩) (n + 1) (grownCap w (n + 1) cap 3))) w' := by
  refine ⟨_, rfl, ⟨by simpa using hl, .inr ⟨w.heap.size, _, cur, rfl, Nat.zero_le _, hA, grownCap_ge _ _ _ _, grownCap_le_maxLen _ _ _ _ (by unfold maxLen; omega), by rw [hs, Nat.mul_one], by rw [Nat.mul_one]; exact ht⟩⟩, Only.of_below hb, fun b hb1 => ?_⟩
  simp [Value.ownBlock] at hb1
  right; omega

theorem insert_end_grow {w : World} {base : Option Addr} {n cap vb : Nat} {zs : List Int} {x : Int} (h : Row w 3 1 (.slice base n cap) n (zs.map (Value.int .i64))) (hn : n ≤ 1000000) (hroom : cap < n + 1) (hv : At w vb 3 #[I x]) :
    Calls Try.prog 116 #[.slice base n cap, .int .i64 n, .slice (some ⟨vb, 0, none⟩) 1 1] w (RowIns (.slice base n cap) (n + 1) (zs.map (Value.int .i64) ++ [I x]) w) := by
  have hR := h.reads
  generalize zs.map (Value.int .i64) = xs at *
  have hxl : xs.length = n := by simpa using h.1
  have hnc : n ≤ cap := by
    obtain ⟨A, c, he, hc, _⟩ := h.form
    cases he; exact hc
  have hcs : ∀ a, base = some a → ∀ j v, xs[j]? = some v → w.cell? (a.add j) = some v := by
    intro a ha j v hj
    rcases hR.2 with ⟨h0, hn0⟩ | ⟨A, c, he, hc⟩
    · cases h0; cases ha
    · cases he; cases ha; exact hc j v hj
  refine (Any2.slices_Insert_int_end_grow laysInsert base n cap vb 0 1 1 xs [I x] w (by omega) hnc hroom (by omega) hxl rfl (fun hb => ?_) hcs (fun j v hj => ?_) (by intro v hv'; simp at hv'; rw [hv']; rfl)).mono ?_
  · rcases hR.2 with ⟨h0, hn0⟩ | ⟨A, c, he, hc⟩
    · exact hn0
    · cases he; cases hb
  · rw [Nat.zero_add, hv.cell]
    cases j with
    | zero => simpa using hj
    | succ j => simp at hj
  · rintro e w' ⟨rfl, rfl⟩
    change RowIns _ _ _ _ (.returned (.slice (some ⟨w.heap.size, 0, none⟩) (n + 1) (grownCap w (n + 1) cap 3))) (w.drew.alloc (.cells ((xs ++ [I x]).toArray ++ Builtin.zeroCells (Value.int .i64 0).cells (grownCap w (n + 1) cap 3 - (n + 1))) 3))
    have hb : Below w.heap.size w (w.drew.alloc (.cells ((xs ++ [I x]).toArray ++ Builtin.zeroCells (Value.int .i64 0).cells (grownCap w (n + 1) cap 3 - (n + 1))) 3)) := (Below.drew (Below.refl _ _)).alloc (Nat.le_refl _) _
    exact new_row (base := base) (cap := cap) (hn := hn) (hA := At.fresh w.drew 3 _ rfl) (hb := hb) (hl := by simp [hxl]) (hs := zero_size _ _ (by simp; omega) (grownCap_ge w (n + 1) cap 3)) (ht := by rw [Array.toList_append, List.take_append_of_le_length (by simp; omega), List.take_of_length_le (by simp; omega)])

theorem insert_grow {w : World} {g n cap i vb : Nat} {zs : List Int} {x : Int} (h : Row w 3 1 (.slice (some ⟨g, 0, none⟩) n cap) n (zs.map (Value.int .i64))) (hn : n ≤ 1000000) (hi : i < n) (hroom : cap < n + 1) (hv : At w vb 3 #[I x]) :
    Calls Try.prog 116 #[.slice (some ⟨g, 0, none⟩) n cap, .int .i64 i, .slice (some ⟨vb, 0, none⟩) 1 1] w (RowIns (.slice (some ⟨g, 0, none⟩) n cap) (n + 1) ((zs.map (Value.int .i64)).take i ++ (I x :: (zs.map (Value.int .i64)).drop i)) w) := by
  have hone := ints_one (zs := zs)
  have hcs : ∀ j v, (zs.map (Value.int .i64))[j]? = some v → w.cell? ⟨g, 0 + j, none⟩ = some v := by
    intro j v hj
    have := h.cells (g := g) rfl j v hj
    rw [Addr.add_lit] at this
    exact this
  generalize zs.map (Value.int .i64) = xs at *
  have hxl : xs.length = n := by simpa using h.1
  have hnc : n ≤ cap := by
    obtain ⟨A, c, he, hc, _⟩ := h.form
    cases he; exact hc
  refine (Any2.slices_Insert_int_grow laysInsert g 0 n cap i vb 0 1 1 xs [I x] w hi (by omega) hnc hroom (by omega) hxl rfl hcs (fun j v hj => ?_) hone (by intro v hv'; simp at hv'; rw [hv']; rfl)).mono ?_
  · rw [Nat.zero_add, hv.cell]
    cases j with
    | zero => simpa using hj
    | succ j => simp at hj
  · rintro e w' ⟨rfl, rfl⟩
    change RowIns _ _ _ _ (.returned (.slice (some ⟨w.heap.size, 0, none⟩) (n + 1) (grownCap w (n + 1) cap 3))) ((((w.alloc (.cells ((xs.take i).toArray ++ Builtin.zeroCells (Value.int .i64 0).cells (n + 1 - i) ++ Builtin.zeroCells (Value.int .i64 0).cells (grownCap w (n + 1) cap 3 - (n + 1))) 3)).drew.setCells w.heap.size i [I x]).drew).setCells w.heap.size (i + 1) (xs.drop i))
    have hge := grownCap_ge w (n + 1) cap 3
    have hsz := zero_size2 (xs.take i) (n + 1 - i) (grownCap w (n + 1) cap 3 - (n + 1))
    have hA := At.setCells (xs.drop i) (i + 1) (At.drew (At.setCells [I x] i (At.drew (At.fresh w 3 ((xs.take i).toArray ++ Builtin.zeroCells (Value.int .i64 0).cells (n + 1 - i) ++ Builtin.zeroCells (Value.int .i64 0).cells (grownCap w (n + 1) cap 3 - (n + 1))) rfl))))
    have hlen : (xs.take i).length = i := by simp; omega
    generalize ((xs.take i).toArray ++ Builtin.zeroCells (Value.int .i64 0).cells (n + 1 - i) ++ Builtin.zeroCells (Value.int .i64 0).cells (grownCap w (n + 1) cap 3 - (n + 1))) = cur at *
    obtain ⟨hs1, ht1⟩ := hsz
    rw [hlen] at hs1 ht1
    have hb : Below w.heap.size w (((w.alloc (.cells cur 3)).drew.setCells w.heap.size i [I x]).drew.setCells w.heap.size (i + 1) (xs.drop i)) :=
      below_cells (Nat.le_refl _) _ _ _ (Below.drew (below_cells (Nat.le_refl _) _ _ _ (Below.drew ((Below.refl _ _).alloc (Nat.le_refl _) _))))
    refine new_row (base := some ⟨g, 0, none⟩) (cap := cap) (hn := hn) (hA := hA) (hb := hb) (hl := by simp; omega) (hs := by rw [wr_size, wr_size, hs1]; omega) (ht := ?_)
    rw [wr_list _ _ _ (by rw [wr_size]; simp; omega), wr_list _ _ _ (by simp; omega)]
    have a1 : (cur.toList.take i ++ ([I x] ++ cur.toList.drop (i + [I x].length))).take (i + 1) = xs.take i ++ [I x] := by
      rw [ht1]
      have : xs.take i ++ ([I x] ++ cur.toList.drop (i + [I x].length)) = (xs.take i ++ [I x]) ++ cur.toList.drop (i + [I x].length) := by simp
      rw [this, List.take_append_of_le_length (by simp; omega), List.take_of_length_le (by simp; omega)]
    rw [a1]
    have a2 : ∀ r, (xs.take i ++ [I x]) ++ (xs.drop i ++ r) = (xs.take i ++ (I x :: xs.drop i)) ++ r := by intro r; simp
    rw [a2, List.take_append_of_le_length (by simp; omega), List.take_of_length_le (by simp; omega)]

/-- slices.Insert of one element, wherever. -/
theorem insert_any {w : World} {v : Value} {n i vb : Nat} {zs : List Int} {x : Int} (h : Row w 3 1 v n (zs.map (Value.int .i64))) (hn : n ≤ 1000000) (hi : i ≤ n) (hv : At w vb 3 #[I x]) (hne : v.ownBlock ≠ some vb) :
    Calls Try.prog 116 #[v, .int .i64 i, .slice (some ⟨vb, 0, none⟩) 1 1] w (RowIns v (n + 1) ((zs.map (Value.int .i64)).take i ++ (I x :: (zs.map (Value.int .i64)).drop i)) w) := by
  have hxl : (zs.map (Value.int .i64)).length = n := by simpa using h.1
  have hend : i = n → (zs.map (Value.int .i64)).take i ++ (I x :: (zs.map (Value.int .i64)).drop i) = zs.map (Value.int .i64) ++ [I x] := by
    intro e
    rw [List.take_of_length_le (by omega), List.drop_eq_nil_of_le (by omega)]
  obtain ⟨A, cap, rfl, hcap, hmax, hA⟩ := h.form
  by_cases hin : i = n
  · rw [hend hin, hin]
    by_cases hroom : n + 1 ≤ cap
    · rcases h.2 with ⟨h0, hn0⟩ | ⟨g, cap', cur, hv', _⟩
      · cases h0; omega
      · cases hv'
        exact insert_end_room h hroom hv
    · exact insert_end_grow h hn (by omega) hv
  · rcases h.2 with ⟨h0, hn0⟩ | ⟨g, cap', cur, hv', _⟩
    · omega
    · cases hv'
      by_cases hroom : n + 1 ≤ cap
      · exact insert_shift h (by omega) hroom hv (fun e => hne (by rw [e]; rfl))
      · exact insert_grow h hn (by omega) (by omega) hv
end Go.Proofs.Ytnnjlpkjpbbklaa

-- Slices3: slices.Delete of one element at []int. Conditions: none.
namespace Go.Proofs.Ytnnjlpkjpbbklaa
open Go.RowKit Go.Shelf

theorem delete_any {w : World} {v : Value} {n i : Nat} {zs : List Int} (h : Row w 3 1 v n (zs.map (Value.int .i64))) (hi : i < n) :
    Calls Try.prog 118 #[v, .int .i64 i, .int .i64 ((i + 1 : Nat) : Int)] w fun e w' => ∃ v', e = .returned v' ∧ Row w' 3 1 v' (n - 1) ((zs.take i ++ zs.drop (i + 1)).map (Value.int .i64)) ∧ Only (fun b => v.ownBlock = some b) w w' ∧ v'.ownBlock = v.ownBlock := by
  have hzl : zs.length = n := by simpa using h.1
  rcases h.2 with ⟨h0, h1⟩ | ⟨g, cap, cur, rfl, _, hg, hc, hm, hs, ht⟩
  · omega
  · have hA : At w g 3 cur := hg
    simp only [Nat.mul_one] at hs ht
    have hcell : ∀ j, w.cell? ⟨g, j, none⟩ = cur[j]? := hA.cell
    have hct : ∀ j, j < zs.length → w.cell? ⟨g, 0 + j, none⟩ = some (.int .i64 (zs.getD j 0)) := by
      intro j hj
      have h1 : (zs.map (Value.int .i64))[j]? = some (.int .i64 (zs.getD j 0)) := by simp [List.getD, List.getElem?_eq_getElem hj]
      rw [Nat.zero_add, hcell j, ← Array.getElem?_toList]
      rw [← ht, List.getElem?_take] at h1
      split at h1
      · exact h1
      · cases h1
    refine (Any.slices_Delete_int_cells laysDelete g 0 n cap i (i + 1) zs w (by omega) hc (by unfold maxLen at hm; omega) (by omega) (by omega) hct (fun j hj => hA.frozen _)).mono ?_
    rintro e w' ⟨rfl, q, rfl⟩
    have e1 : n - (i + 1 - i) = n - 1 := by omega
    have e2 : i + 1 - i = 1 := by omega
    have e3 : zs.take n = zs := List.take_of_length_le (by omega)
    rw [e1, e2, e3]
    have hA1 := At.setCells ((zs.take i ++ zs.drop (i + 1) ++ List.replicate 1 0).map (Value.int .i64)) 0 (At.drewN hA q)
    have p1 := setCells_plain g ((zs.take i ++ zs.drop (i + 1) ++ List.replicate 1 0).map (Value.int .i64)) 0 (w.drewN q)
    refine ⟨_, rfl, ⟨?_, .inr ⟨g, cap, _, rfl, Nat.zero_le _, hA1, by omega, hm, ?_, ?_⟩⟩, ⟨p1.2.1, p1.2.2.1, p1.2.2.2, Nat.le_of_eq p1.1.symm, ?_⟩, rfl⟩
    · simp; omega
    · rw [wr_size, hs, Nat.mul_one]
    · rw [Nat.mul_one, wr_list _ _ _ (by simp; omega)]
      simp only [List.take_zero, List.nil_append, List.map_append, List.append_assoc]
      rw [← List.append_assoc, List.take_append_of_le_length (by simp; omega), List.take_of_length_le (by simp; omega)]
    · intro k hk hn
      have hkg : k ≠ g := fun e => hn (by rw [e]; rfl)
      rw [setCells_other _ _ _ _ _ hkg]
      rfl
end Go.Proofs.Ytnnjlpkjpbbklaa

-- DomKids: The kids of a node are another row: in the old row's block, or a new one. Conditions: none.
namespace Go.Proofs.Ytnnjlpkjpbbklaa
open Go.RowKit

section
variable {w : World} {tb : Nat} {T : DT} {nv : Value} {G : List (Option NG)}

theorem Rep.kids (h : Rep w tb T nv G) {i : Nat} {n : Nd} {g : NG} {ks : List Nat} {v : Value} {w1 w2 w3 : World} (hn : T.at_ i = some n) (hg : G[i]? = some (some g)) (hr : NodeRep w g n) (hb : Below w.heap.size w w1)
    (hrow : Row w2 3 1 v ks.length (kidCells ks)) (hO : Only (fun b => g.kv.ownBlock = some b) w1 w2) (hnew : ∀ b, v.ownBlock = some b → g.kv.ownBlock = some b ∨ w1.heap.size ≤ b) (hw : w3 = w2.setCell ⟨g.b, 3, none⟩ v) :
    Rep w3 tb (T.put i (some { n with kids := ks })) nv (G.set i (some ⟨g.b, g.av, v⟩)) ∧ (∀ b ∈ repBlocks tb nv (G.set i (some ⟨g.b, g.av, v⟩)), b ∈ repBlocks tb nv G ∨ w.heap.size ≤ b) ∧ Only (fun b => b ∈ repBlocks tb nv G) w w3 := by
  have hnd := h.node_nodup hg
  have hne := NG.b_ne hnd
  have hz := hb.size
  have hz2 := hO.size
  have hlt := hr.lt
  have hgb := hr.1.lt
  have hsub : ∀ b ∈ g.blocks, b ∈ repBlocks tb nv G := fun b hb1 => mem_repBlocks_node hg hb1
  have hvb : v.ownBlock ≠ some g.b := by
    intro e
    rcases hnew _ e with h1 | h1
    · exact hne.2.1 h1
    · omega
  subst hw
  have hblk : ∀ b, b < w.heap.size → b ≠ g.b → g.kv.ownBlock ≠ some b → (w2.setCell ⟨g.b, 3, none⟩ v).heap[b]? = w.heap[b]? := by
    intro b hb1 h1 h2
    rw [Below.heap_setCell _ _ _ _ h1, hO.block b (by omega) h2]
    exact hb.block b hb1
  have hA : At (w2.setCell ⟨g.b, 3, none⟩ v) g.b 139 #[I n.tag, g.av, .string n.text, v, I (DT.upI n.up)] := by
    have h1 : At w1 g.b 139 #[I n.tag, g.av, .string n.text, g.kv, I (DT.upI n.up)] := hr.1.keep hb
    have h2 : At w2 g.b 139 #[I n.tag, g.av, .string n.text, g.kv, I (DT.upI n.up)] := (hO.block g.b (by omega) hne.2.1).trans h1
    exact h2.set' rfl
  have hN : NodeRep (w2.setCell ⟨g.b, 3, none⟩ v) ⟨g.b, g.av, v⟩ { n with kids := ks } := by
    refine ⟨hA, hr.2.1.same fun b hb1 => ?_, hrow.same fun b hb1 => ?_⟩
    · exact hblk b (hr.2.1.lt b hb1).2 (fun e => hne.1 (by rw [← e]; exact hb1)) (hne.2.2 b hb1)
    · exact Below.heap_setCell _ _ _ _ (fun e => hvb (by rw [hb1]; exact congrArg some e))
  have hnew' : ∀ b ∈ (⟨g.b, g.av, v⟩ : NG).blocks, b ∈ g.blocks ∨ w.heap.size ≤ b := by
    intro b hb1
    simp only [NG.blocks, List.mem_cons, List.mem_append, Option.mem_toList] at hb1 ⊢
    rcases hb1 with h1 | h1 | h1
    · exact .inl (.inl h1)
    · exact .inl (.inr (.inl h1))
    · rcases hnew b h1 with h2 | h2
      · exact .inl (.inr (.inr h2))
      · right; omega
  refine ⟨h.setNode (n' := { n with kids := ks }) (g' := ⟨g.b, g.av, v⟩) hn hg rfl hN ?_ ?_ hnew', ?_, ?_⟩
  · intro b hb1 hb2
    refine hblk b (h.lt b hb1) (fun e => hb2 (by rw [e]; simp [NG.blocks])) (fun e => hb2 (by simp [NG.blocks, e]))
  · simp only [NG.blocks, List.nodup_cons, List.mem_append, Option.mem_toList, not_or, List.nodup_append]
    refine ⟨⟨hne.1, hvb⟩, ?_, ?_, fun a ha b hb1 e => ?_⟩
    · cases g.av.ownBlock <;> simp
    · cases v.ownBlock <;> simp
    · subst e
      have ha' : g.av.ownBlock = some a := by simpa using ha
      rcases hnew a (by simpa using hb1) with h1 | h1
      · exact hne.2.2 a ha' h1
      · have := (hr.2.1.lt a ha').2; omega
  · refine Rep.set_blocks (fun b hb1 => .inl hb1) fun b hb1 => ?_
    rcases hnew' b hb1 with h1 | h1
    · exact .inl (hsub b h1)
    · exact .inr h1
  · refine ⟨hO.os.trans hb.os, hO.tape.trans hb.tape, hO.output.trans hb.output, by rw [World.size_setCell]; omega, fun b hb1 hn' => ?_⟩
    exact hblk b hb1 (fun e => hn' (hsub b (by rw [e]; simp [NG.blocks]))) (fun e => hn' (hsub b (by simp [NG.blocks, e])))
end
end Go.Proofs.Ytnnjlpkjpbbklaa

-- DomIns: Insert of package dom. Conditions: the tree lies in memory and is sound.
namespace Go.Proofs.Ytnnjlpkjpbbklaa
open Go.RowKit

section
variable {w : World} {tb : Nat} {T : DT} {nv : Value} {G : List (Option NG)}

theorem nodePtr_form (G : List (Option NG)) (id : Int) : ∃ p, nodePtr G id = .pointer p := by
  unfold nodePtr
  split
  · exact ⟨_, rfl⟩
  · cases (G[id.toNat]?).getD none <;> exact ⟨_, rfl⟩

theorem quiet_eq {P : Program} {f : FuncId} {args : Array Value} {w : World} {n : Nat} {v : Value}
    (h : Calls P f args (w.drewN n) fun e w' => e = .returned v ∧ w.drewN n = w') : Calls P f args (w.drewN n) fun e w'' => e = .returned v ∧ ∃ m, w'' = w.drewN m :=
  h.mono fun _ _ ⟨he, hm⟩ => ⟨he, n, hm.symm⟩

/-- get of a node that is there, in any world that keeps the tree. -/
theorem get_ptr (h : Rep w tb T nv G) (hl : T.nodes.length ≤ 2000) (id : Int) : ∃ p, nodePtr G id = .pointer p ∧ ∀ (W : World), Below w.heap.size w W → Calls Try.prog 112 #[.pointer (some ⟨tb, 0, none⟩), .int .i64 id] W fun e w' => e = .returned (.pointer p) ∧ W = w' := by
  obtain ⟨p, hp⟩ := nodePtr_form G id
  refine ⟨p, hp, fun W hW => ?_⟩
  have := get_any (h.keep hW) hl id
  rw [hp] at this
  exact this

/-- Kids of one node are another row, and another node's parent is written. -/
theorem Mut.linked {S : Nat → Prop} {w1 w2 w' : World} (h : Rep w tb T nv G) (hS : ∀ b ∈ repBlocks tb nv G, S b) {i j : Nat} {n k : Nd} {g gk : NG} {ks : List Nat} {v : Value} {u : Option Nat} (hn : T.at_ i = some n) (hg : G[i]? = some (some g)) (hr : NodeRep w g n)
    (hk : T.at_ j = some k) (hgk : G[j]? = some (some gk)) (hrk : NodeRep w gk k) (hij : i ≠ j) (hb : Below w.heap.size w w1)
    (hrow : Row w2 3 1 v ks.length (kidCells ks)) (hO : Only (fun b => g.kv.ownBlock = some b) w1 w2) (hnew : ∀ b, v.ownBlock = some b → g.kv.ownBlock = some b ∨ w1.heap.size ≤ b)
    (hw : w' = (w2.setCell ⟨g.b, 3, none⟩ v).setCell ⟨gk.b, 4, none⟩ (I (DT.upI u))) : Mut tb ((T.put i (some { n with kids := ks })).put j (some { k with up := u })) S w w' := by
  obtain ⟨hR, hB, hO2⟩ := h.kids hn hg hr hb hrow hO hnew rfl
  generalize hw3 : w2.setCell ⟨g.b, 3, none⟩ v = w3 at *
  have hkj : (T.put i (some { n with kids := ks })).at_ j = some k := by rw [DT.at_put_ne _ (fun e => hij e.symm)]; exact hk
  have hgj : (G.set i (some ⟨g.b, g.av, v⟩))[j]? = some (some gk) := by rw [List.getElem?_set_ne hij]; exact hgk
  have hrj : NodeRep w3 gk k := by
    obtain ⟨g', hg', hr'⟩ := hR.node j k hkj
    rw [hgj] at hg'
    obtain rfl := Option.some.inj (Option.some.inj hg')
    exact hr'
  have hm := Mut.cell (S := fun b => S b ∨ w.heap.size ≤ b) (w1 := w3) (k := 4) (u := I (DT.upI u)) (n' := { k with up := u }) hR (fun b hb1 => (hB b hb1).imp (hS b) id) hkj hgj hrj (Below.refl _ _) hw rfl rfl rfl
  obtain ⟨⟨nv', G', hr', hs'⟩, ho'⟩ := hm
  have hz := hO2.size
  refine ⟨⟨nv', G', hr', fun b hb1 => ?_⟩, ?_⟩
  · rcases hs' b hb1 with h1 | h1
    · exact h1
    · right; omega
  · refine ⟨ho'.os.trans hO2.os, ho'.tape.trans hO2.tape, ho'.output.trans hO2.output, Nat.le_trans hz ho'.size, fun b hb1 hn' => ?_⟩
    rw [ho'.block b (by omega) (by intro hx; rcases hx with hx | hx; exact hn' hx; omega)]
    exact hO2.block b hb1 fun hx => hn' (hS b hx)

set_option maxRecDepth 100000 in
set_option maxHeartbeats 2000000 in
theorem insertNode_any (h : Rep w tb T nv G) {S : Nat → Prop} (hS : ∀ b ∈ repBlocks tb nv G, S b) (hW : T.WF) (parent pos kid : Int) :
    Calls Try.prog 36 #[.pointer (some ⟨tb, 0, none⟩), I parent, I pos, I kid] w fun e w' => e = .returned (I (T.insert parent pos kid).1) ∧ Mut tb (T.insert parent pos kid).2 S w w' := by
  have hl := hW.nodes_le
  have HM0 := Lib.hid (fun (W : World) (hW : Below w.heap.size w W) => Mut.of_below h hS hW)
  obtain ⟨pp, hpp, HGP⟩ := get_ptr h hl parent
  obtain ⟨kp, hkp, HGK⟩ := get_ptr h hl kid
  have HGP := Lib.hid HGP
  have HGK := Lib.hid HGK
  unfold DT.insert
  cases hp : T.get parent with
  | none =>
    have e : pp = none := by rw [h.ptr_none hp] at hpp; cases hpp; rfl
    subst e
    clear hpp hkp hp h hS hW
    go_enter Try.func36, Try.ntmps36
    go_wp2_with (first | ((with_reducible refine (HGP.out _ (by repeat (first | exact Below.refl _ _ | assumption | (refine Below.setCell ?_ (by first | (simp; done) | (simp; omega) | omega) _) | (refine Below.alloc ?_ (by first | (simp; done) | (simp; omega) | omega) _) | (refine Below.drew ?_) | (refine Below.drewN' ?_ _)))).mono ?_); rintro e w' ⟨rfl, rfl⟩) | ((with_reducible refine (HGK.out _ (by repeat (first | exact Below.refl _ _ | assumption | (refine Below.setCell ?_ (by first | (simp; done) | (simp; omega) | omega) _) | (refine Below.alloc ?_ (by first | (simp; done) | (simp; omega) | omega) _) | (refine Below.drew ?_) | (refine Below.drewN' ?_ _)))).mono ?_); rintro e w' ⟨rfl, rfl⟩))
    go_ret
    exact ⟨rfl, HM0.out _ (by repeat (first | exact Below.refl _ _ | assumption | (refine Below.setCell ?_ (by first | (simp; done) | (simp; omega) | omega) _) | (refine Below.alloc ?_ (by first | (simp; done) | (simp; omega) | omega) _) | (refine Below.drew ?_) | (refine Below.drewN' ?_ _)))⟩
  | some p =>
    obtain ⟨g, hpg, hrp, hg⟩ := h.ptr_some hp
    rw [hpp] at hpg
    cases hpg
    cases hk : T.get kid with
    | none =>
      have e : kp = none := by rw [h.ptr_none hk] at hkp; cases hkp; rfl
      subst e
      clear hpp hkp hp hk h hS hW hrp hg
      go_enter Try.func36, Try.ntmps36
      go_wp2_with (first | ((with_reducible refine (HGP.out _ (by repeat (first | exact Below.refl _ _ | assumption | (refine Below.setCell ?_ (by first | (simp; done) | (simp; omega) | omega) _) | (refine Below.alloc ?_ (by first | (simp; done) | (simp; omega) | omega) _) | (refine Below.drew ?_) | (refine Below.drewN' ?_ _)))).mono ?_); rintro e w' ⟨rfl, rfl⟩) | ((with_reducible refine (HGK.out _ (by repeat (first | exact Below.refl _ _ | assumption | (refine Below.setCell ?_ (by first | (simp; done) | (simp; omega) | omega) _) | (refine Below.alloc ?_ (by first | (simp; done) | (simp; omega) | omega) _) | (refine Below.drew ?_) | (refine Below.drewN' ?_ _)))).mono ?_); rintro e w' ⟨rfl, rfl⟩))
      go_ret
      exact ⟨rfl, HM0.out _ (by repeat (first | exact Below.refl _ _ | assumption | (refine Below.setCell ?_ (by first | (simp; done) | (simp; omega) | omega) _) | (refine Below.alloc ?_ (by first | (simp; done) | (simp; omega) | omega) _) | (refine Below.drew ?_) | (refine Below.drewN' ?_ _)))⟩
    | some k =>
      obtain ⟨gk, hkg, hrk, hgk⟩ := h.ptr_some hk
      rw [hkp] at hkg
      cases hkg
      dsimp only
      obtain ⟨h0, hp1, h02⟩ := DT.get_some hp
      obtain ⟨h0', hk1, h02'⟩ := DT.get_some hk
      obtain ⟨i, rfl⟩ : ∃ i : Nat, parent = i := ⟨parent.toNat, by omega⟩
      obtain ⟨j, rfl⟩ : ∃ j : Nat, kid = j := ⟨kid.toNat, by omega⟩
      simp only [Int.toNat_natCast] at hp1 hk1 hg hgk ⊢
      have hcp := hrp.1.cell
      have hck := hrk.1.cell
      have hjl := DT.at_lt hk1
      have hil := DT.at_lt hp1
      have HWI := Lib.hid (fun (W : World) (hb : Below w.heap.size w W) => within_any (h.keep hb) hW hp1 j (by omega))
      have hdd : T.depth (i : Int) = (T.depthF DT.fuel i : Int) := DT.depth_has hp
      have hhd : T.height (j : Int) = (T.heightF DT.fuel j : Int) := DT.height_has hk
      have hdl := hW.depth_le hp1
      have hhl := hW.height_dep hk1
      have hdep1 := hW.dep1
      have hdep2 := hW.dep2
      have HD := Lib.hid (fun (W : World) (hb : Below w.heap.size w W) => depth_any (h.keep hb) hW (i : Int))
      have HH := Lib.hid (fun (W : World) (hb : Below w.heap.size w W) => height_any (h.keep hb) hW (j : Int))
      have hgpl := hrp.1.lt
      have hgkl := hrk.1.lt
      have hkl := kids_len hW hp1
      have htree := h.tree.cell
      have htl := h.tree.lt
      obtain ⟨A, cap, hv, hcap, hmx, hA⟩ := hrp.2.2.form
      have HX := Lib.hid (And.intro h (And.intro hS (And.intro hW (And.intro hp1 (And.intro hk1 (And.intro hg (And.intro hgk (And.intro hrp (And.intro hrk hv)))))))))
      rw [hv] at hcp
      rw [hdd] at HD ⊢
      rw [hhd] at HH ⊢
      generalize hDD : T.depthF DT.fuel i = dd at *
      generalize hHH : T.heightF DT.fuel j = hh at *
      have hhl2 : hh ≤ 40 := by omega
      generalize hM : p.kids.length = m at *
      generalize hT : p.tag = tg at *
      generalize hU : DT.upI k.up = u at *
      generalize hWB : T.within i j = wb at *
      have HQ := Lib.hid (And.intro hM (And.intro hT (And.intro hU hWB)))
      have hml : ((m : Nat) : Int) ≤ 2000 := by omega
      clear h hS hW hp hk hp1 hk1 hg hgk hrp hrk hv hdd hhd hDD hHH hM hT hU hWB hpp hkp hkl h0 h0' h02 h02' hhl
      by_cases ht : tg = 0
      · have hd : (tg == 0) = true := by simp [ht]
        rw [if_pos ht]
        clear ht
        go_enter Try.func36, Try.ntmps36
        go_wp2_with (first | ((with_reducible refine (HGP.out _ (by repeat (first | exact Below.refl _ _ | assumption | (refine Below.setCell ?_ (by first | (simp; done) | (simp; omega) | omega) _) | (refine Below.alloc ?_ (by first | (simp; done) | (simp; omega) | omega) _) | (refine Below.drew ?_) | (refine Below.drewN' ?_ _)))).mono ?_); rintro e w' ⟨rfl, rfl⟩) | ((with_reducible refine (HGK.out _ (by repeat (first | exact Below.refl _ _ | assumption | (refine Below.setCell ?_ (by first | (simp; done) | (simp; omega) | omega) _) | (refine Below.alloc ?_ (by first | (simp; done) | (simp; omega) | omega) _) | (refine Below.drew ?_) | (refine Below.drewN' ?_ _)))).mono ?_); rintro e w' ⟨rfl, rfl⟩))
        go_ret
        exact ⟨rfl, HM0.out _ (by repeat (first | exact Below.refl _ _ | assumption | (refine Below.setCell ?_ (by first | (simp; done) | (simp; omega) | omega) _) | (refine Below.alloc ?_ (by first | (simp; done) | (simp; omega) | omega) _) | (refine Below.drew ?_) | (refine Below.drewN' ?_ _)))⟩
      have hd : (tg == 0) = false := by simp [ht]
      rw [if_neg ht]
      clear ht
      by_cases hbad : (j : Int) = 0 ∨ 0 ≤ u ∨ pos < 0 ∨ (m : Int) < pos
      · rw [if_pos hbad]
        have hc : ((j : Int) == 0) = true ∨ (((j : Int) == 0) = false ∧ decide (0 ≤ u) = true) ∨ (((j : Int) == 0) = false ∧ decide (0 ≤ u) = false ∧ decide (pos < 0) = true) ∨ (((j : Int) == 0) = false ∧ decide (0 ≤ u) = false ∧ decide (pos < 0) = false ∧ decide ((m : Int) < pos) = true) := by
          simp only [beq_iff_eq, beq_eq_false_iff_ne, decide_eq_true_eq, decide_eq_false_iff_not]
          omega
        clear hbad
        rcases hc with c1 | ⟨c1, c2⟩ | ⟨c1, c2, c3⟩ | ⟨c1, c2, c3, c4⟩
        all_goals
          go_enter Try.func36, Try.ntmps36
          go_wp2_with (first | ((with_reducible refine (HGP.out _ (by repeat (first | exact Below.refl _ _ | assumption | (refine Below.setCell ?_ (by first | (simp; done) | (simp; omega) | omega) _) | (refine Below.alloc ?_ (by first | (simp; done) | (simp; omega) | omega) _) | (refine Below.drew ?_) | (refine Below.drewN' ?_ _)))).mono ?_); rintro e w' ⟨rfl, rfl⟩) | ((with_reducible refine (HGK.out _ (by repeat (first | exact Below.refl _ _ | assumption | (refine Below.setCell ?_ (by first | (simp; done) | (simp; omega) | omega) _) | (refine Below.alloc ?_ (by first | (simp; done) | (simp; omega) | omega) _) | (refine Below.drew ?_) | (refine Below.drewN' ?_ _)))).mono ?_); rintro e w' ⟨rfl, rfl⟩))
          go_ret
          exact ⟨rfl, HM0.out _ (by repeat (first | exact Below.refl _ _ | assumption | (refine Below.setCell ?_ (by first | (simp; done) | (simp; omega) | omega) _) | (refine Below.alloc ?_ (by first | (simp; done) | (simp; omega) | omega) _) | (refine Below.drew ?_) | (refine Below.drewN' ?_ _)))⟩
      rw [if_neg hbad]
      have hc : ((j : Int) == 0) = false ∧ decide (0 ≤ u) = false ∧ decide (pos < 0) = false ∧ decide ((m : Int) < pos) = false := by
        simp only [beq_eq_false_iff_ne, decide_eq_false_iff_not]
        omega
      obtain ⟨c1, c2, c3, c4⟩ := hc
      simp only [not_or] at hbad
      have hj0 : j ≠ 0 := by omega
      obtain ⟨q, rfl⟩ : ∃ q : Nat, pos = q := ⟨pos.toNat, by omega⟩
      have hqm : q ≤ m := by omega
      clear hbad
      cases wb with
      | true =>
        rw [if_pos rfl]
        go_enter Try.func36, Try.ntmps36
        go_wp2_with (first | ((with_reducible refine (HGP.out _ (by repeat (first | exact Below.refl _ _ | assumption | (refine Below.setCell ?_ (by first | (simp; done) | (simp; omega) | omega) _) | (refine Below.alloc ?_ (by first | (simp; done) | (simp; omega) | omega) _) | (refine Below.drew ?_) | (refine Below.drewN' ?_ _)))).mono ?_); rintro e w' ⟨rfl, rfl⟩) | ((with_reducible refine (HGK.out _ (by repeat (first | exact Below.refl _ _ | assumption | (refine Below.setCell ?_ (by first | (simp; done) | (simp; omega) | omega) _) | (refine Below.alloc ?_ (by first | (simp; done) | (simp; omega) | omega) _) | (refine Below.drew ?_) | (refine Below.drewN' ?_ _)))).mono ?_); rintro e w' ⟨rfl, rfl⟩) | ((with_reducible refine (HWI.out _ (by repeat (first | exact Below.refl _ _ | assumption | (refine Below.setCell ?_ (by first | (simp; done) | (simp; omega) | omega) _) | (refine Below.alloc ?_ (by first | (simp; done) | (simp; omega) | omega) _) | (refine Below.drew ?_) | (refine Below.drewN' ?_ _)))).mono ?_); rintro e w' ⟨rfl, rfl⟩))
        go_ret
        exact ⟨rfl, HM0.out _ (by repeat (first | exact Below.refl _ _ | assumption | (refine Below.setCell ?_ (by first | (simp; done) | (simp; omega) | omega) _) | (refine Below.alloc ?_ (by first | (simp; done) | (simp; omega) | omega) _) | (refine Below.drew ?_) | (refine Below.drewN' ?_ _)))⟩
      | false =>
        rw [if_neg (by simp)]
        by_cases hdp : T.dep < (dd : Int) + 1 + hh
        · rw [if_pos hdp]
          have c5 : decide (T.dep < (dd : Int) + 1 + hh) = true := by simp [hdp]
          clear hdp
          go_enter Try.func36, Try.ntmps36
          go_wp2_with (first | ((with_reducible refine (HGP.out _ (by repeat (first | exact Below.refl _ _ | assumption | (refine Below.setCell ?_ (by first | (simp; done) | (simp; omega) | omega) _) | (refine Below.alloc ?_ (by first | (simp; done) | (simp; omega) | omega) _) | (refine Below.drew ?_) | (refine Below.drewN' ?_ _)))).mono ?_); rintro e w' ⟨rfl, rfl⟩) | ((with_reducible refine (HGK.out _ (by repeat (first | exact Below.refl _ _ | assumption | (refine Below.setCell ?_ (by first | (simp; done) | (simp; omega) | omega) _) | (refine Below.alloc ?_ (by first | (simp; done) | (simp; omega) | omega) _) | (refine Below.drew ?_) | (refine Below.drewN' ?_ _)))).mono ?_); rintro e w' ⟨rfl, rfl⟩) | ((with_reducible refine (HWI.out _ (by repeat (first | exact Below.refl _ _ | assumption | (refine Below.setCell ?_ (by first | (simp; done) | (simp; omega) | omega) _) | (refine Below.alloc ?_ (by first | (simp; done) | (simp; omega) | omega) _) | (refine Below.drew ?_) | (refine Below.drewN' ?_ _)))).mono ?_); rintro e w' ⟨rfl, rfl⟩))
          go_quiet (first | exact quiet_eq (HD.out _ (by repeat (first | exact Below.refl _ _ | assumption | (refine Below.setCell ?_ (by first | (simp; done) | (simp; omega) | omega) _) | (refine Below.alloc ?_ (by first | (simp; done) | (simp; omega) | omega) _) | (refine Below.drew ?_) | (refine Below.drewN' ?_ _)))) | exact quiet_eq (HH.out _ (by repeat (first | exact Below.refl _ _ | assumption | (refine Below.setCell ?_ (by first | (simp; done) | (simp; omega) | omega) _) | (refine Below.alloc ?_ (by first | (simp; done) | (simp; omega) | omega) _) | (refine Below.drew ?_) | (refine Below.drewN' ?_ _)))))
          go_wp2_with fail
          go_ret
          exact ⟨rfl, HM0.out _ (by repeat (first | exact Below.refl _ _ | assumption | (refine Below.setCell ?_ (by first | (simp; done) | (simp; omega) | omega) _) | (refine Below.alloc ?_ (by first | (simp; done) | (simp; omega) | omega) _) | (refine Below.drew ?_) | (refine Below.drewN' ?_ _)))⟩
        rw [if_neg hdp]
        have c5 : decide (T.dep < (dd : Int) + 1 + hh) = false := by simp; omega
        clear hdp
        have hij : i ≠ j := by
          intro e
          have h1 := HQ.out.2.2.2
          rw [e, HX.out.2.2.1.within_step HX.out.2.2.2.2.1] at h1
          simp at h1
        have hne : gk.b ≠ g.b := by
          intro e
          exact HX.out.1.node_apart HX.out.2.2.2.2.2.1 HX.out.2.2.2.2.2.2.1 hij g.b (by simp [NG.blocks]) (by rw [← e]; simp [NG.blocks])
        have hne2 : g.b ≠ gk.b := fun e => hne e.symm
        have hkvg : g.kv.ownBlock ≠ some g.b := (NG.b_ne (HX.out.1.node_nodup HX.out.2.2.2.2.2.1)).2.1
        have hkvk : g.kv.ownBlock ≠ some gk.b := fun e => HX.out.1.node_apart HX.out.2.2.2.2.2.1 HX.out.2.2.2.2.2.2.1 hij gk.b (by simp [NG.blocks, e]) (by simp [NG.blocks])
        have hkvl : ∀ b, g.kv.ownBlock = some b → b < w.heap.size := fun b hb => HX.out.1.lt b (mem_repBlocks_node HX.out.2.2.2.2.2.1 (by simp [NG.blocks, hb]))
        have HI : Hid (∀ (W : World) (vb : Nat), Below w.heap.size w W → At W vb 3 #[I (j : Int)] → w.heap.size ≤ vb → Calls Try.prog 116 #[.slice A m cap, .int .i64 q, .slice (some ⟨vb, 0, none⟩) 1 1] W fun e w2 =>
            ∃ (A' : Option Addr) (cap' : Nat), e = .returned (.slice A' (m + 1) cap') ∧ Row w2 3 1 (.slice A' (m + 1) cap') (m + 1) (kidCells (p.kids.take q ++ (j :: p.kids.drop q))) ∧ Only (fun b => g.kv.ownBlock = some b) W w2 ∧ (∀ b, (Value.slice A' (m + 1) cap').ownBlock = some b → g.kv.ownBlock = some b ∨ W.heap.size ≤ b) ∧
              At w2 g.b 139 #[I tg, g.av, .string p.text, .slice A m cap, I (DT.upI p.up)] ∧ At w2 gk.b 139 #[I k.tag, gk.av, .string k.text, gk.kv, I u]) := by
          intro W vb hb hv hvb
          have hrow := HX.out.2.2.2.2.2.2.2.1.2.2
          rw [HQ.out.1, kidCells_map] at hrow
          have h1 := insert_any (x := (j : Int)) (hrow.keep hb) (by omega) hqm hv (fun e => by have := hkvl _ e; omega)
          rw [HX.out.2.2.2.2.2.2.2.2.2] at h1
          refine h1.mono ?_
          rintro e w2 ⟨v', rfl, hr, hO, hn⟩
          obtain ⟨A', cap', rfl, _⟩ := hr.form
          have hz := hb.size
          refine ⟨A', cap', rfl, ?_, ?_, ?_, ?_, ?_⟩
          · have e1 : kidCells (p.kids.take q ++ (j :: p.kids.drop q)) = ((p.kids.map fun (k : Nat) => (k : Int)).map (Value.int .i64)).take q ++ (I (j : Int) :: ((p.kids.map fun (k : Nat) => (k : Int)).map (Value.int .i64)).drop q) := by
              rw [← kidCells_map]; simp [kidCells, List.map_take, List.map_drop]
            rw [e1]; exact hr
          · rw [HX.out.2.2.2.2.2.2.2.2.2]; exact hO
          · rw [HX.out.2.2.2.2.2.2.2.2.2]; exact hn
          · have h2 := HX.out.2.2.2.2.2.2.2.1.1.keep hb
            rw [HQ.out.2.1, HX.out.2.2.2.2.2.2.2.2.2] at h2
            exact (hO.block g.b (by omega) (by rw [← HX.out.2.2.2.2.2.2.2.2.2]; exact hkvg)).trans h2
          · have h2 := HX.out.2.2.2.2.2.2.2.2.1.1.keep hb
            rw [HQ.out.2.2.1] at h2
            exact (hO.block gk.b (by omega) (by rw [← HX.out.2.2.2.2.2.2.2.2.2]; exact hkvk)).trans h2
        have Hkv := Lib.hid (And.intro hkvg (And.intro hkvk (And.intro hkvl hij)))
        clear hkvg hkvk hkvl hij
        go_enter Try.func36, Try.ntmps36
        go_wp2_with (first | ((with_reducible refine (HGP.out _ (by repeat (first | exact Below.refl _ _ | assumption | (refine Below.setCell ?_ (by first | (simp; done) | (simp; omega) | omega) _) | (refine Below.alloc ?_ (by first | (simp; done) | (simp; omega) | omega) _) | (refine Below.drew ?_) | (refine Below.drewN' ?_ _)))).mono ?_); rintro e w' ⟨rfl, rfl⟩) | ((with_reducible refine (HGK.out _ (by repeat (first | exact Below.refl _ _ | assumption | (refine Below.setCell ?_ (by first | (simp; done) | (simp; omega) | omega) _) | (refine Below.alloc ?_ (by first | (simp; done) | (simp; omega) | omega) _) | (refine Below.drew ?_) | (refine Below.drewN' ?_ _)))).mono ?_); rintro e w' ⟨rfl, rfl⟩) | ((with_reducible refine (HWI.out _ (by repeat (first | exact Below.refl _ _ | assumption | (refine Below.setCell ?_ (by first | (simp; done) | (simp; omega) | omega) _) | (refine Below.alloc ?_ (by first | (simp; done) | (simp; omega) | omega) _) | (refine Below.drew ?_) | (refine Below.drewN' ?_ _)))).mono ?_); rintro e w' ⟨rfl, rfl⟩))
        go_quiet (first | exact quiet_eq (HD.out _ (by repeat (first | exact Below.refl _ _ | assumption | (refine Below.setCell ?_ (by first | (simp; done) | (simp; omega) | omega) _) | (refine Below.alloc ?_ (by first | (simp; done) | (simp; omega) | omega) _) | (refine Below.drew ?_) | (refine Below.drewN' ?_ _)))) | exact quiet_eq (HH.out _ (by repeat (first | exact Below.refl _ _ | assumption | (refine Below.setCell ?_ (by first | (simp; done) | (simp; omega) | omega) _) | (refine Below.alloc ?_ (by first | (simp; done) | (simp; omega) | omega) _) | (refine Below.drew ?_) | (refine Below.drewN' ?_ _)))))
        generalize hw1 : w.drewN nq = w1
        have hb1 : Below w.heap.size w w1 := by rw [← hw1]; exact Below.drewN' (Below.refl _ _) _
        obtain ⟨hc1, hf1⟩ := bcell hb1
        have hz1 := hb1.size
        have HB1 := Lib.hid hb1
        clear hw1 hb1
        go_wp2_with ((with_reducible refine (HI.out _ _ ((((Below.refl w.heap.size w).trans HB1.out).alloc hz1 _)) (At.fresh _ _ _ rfl) hz1).mono ?_); rintro e w2 ⟨A', cap', rfl, hrow, hO, hnew, ha1, ha2⟩; have hac1 := ha1.cell; have haf1 := ha1.frozen; have hac2 := ha2.cell; have haf2 := ha2.frozen; have HR := Lib.hid (And.intro hrow (And.intro hO hnew)); clear hrow hO hnew ha1 ha2)
        go_ret
        refine ⟨rfl, ?_⟩
        have hlen : (p.kids.take q ++ (j :: p.kids.drop q)).length = m + 1 := by rw [List.length_append, List.length_cons, List.length_take, List.length_drop, HQ.out.1]; omega
        have hrow := HR.out.1
        rw [← hlen] at hrow
        exact Mut.linked HX.out.1 HX.out.2.1 HX.out.2.2.2.1 HX.out.2.2.2.2.2.1 HX.out.2.2.2.2.2.2.2.1 HX.out.2.2.2.2.1 HX.out.2.2.2.2.2.2.1 HX.out.2.2.2.2.2.2.2.2.1 Hkv.out.2.2.2 (HB1.out.alloc hz1 _) hrow HR.out.2.1 (by rw [hlen]; exact HR.out.2.2) (by rw [hlen]; rfl)
end
end Go.Proofs.Ytnnjlpkjpbbklaa

-- DomRem: Remove of package dom. Conditions: the tree lies in memory and is sound.
namespace Go.Proofs.Ytnnjlpkjpbbklaa
open Go.RowKit

theorem erase_take (l : List Nat) (x : Nat) (h : x ∈ l) : l.take (l.idxOf x) ++ l.drop (l.idxOf x + 1) = l.erase x := by
  induction l with
  | nil => cases h
  | cons a l ih =>
    by_cases e : a = x
    · subst e; simp
    · rcases List.mem_cons.1 h with h | h
      · exact absurd h.symm e
      · rw [List.erase_cons_tail (by simpa using e), List.idxOf_cons, show (a == x) = false by simpa using e]
        simp only [cond_false, List.take_succ_cons, List.drop_succ_cons, List.cons_append]
        rw [ih h]

section
variable {w : World} {tb : Nat} {T : DT} {nv : Value} {G : List (Option NG)}

set_option maxHeartbeats 2000000 in
theorem removeNode_any (h : Rep w tb T nv G) {S : Nat → Prop} (hS : ∀ b ∈ repBlocks tb nv G, S b) (hW : T.WF) (id : Int) :
    Calls Try.prog 37 #[.pointer (some ⟨tb, 0, none⟩), I id] w fun e w' => e = .returned (I (T.remove id).1) ∧ Mut tb (T.remove id).2 S w w' := by
  have hl := hW.nodes_le
  have HM0 := Lib.hid (fun (W : World) (hW : Below w.heap.size w W) => Mut.of_below h hS hW)
  rcases DT.remove_cases hW id with ⟨hn, e⟩ | ⟨n, hn, hu, e⟩ | ⟨n, up, p, hn, hu, hp, hm, e⟩
  · rw [e]
    have HG := Lib.hid (get_none h hl hn)
    clear h hS hW hn e
    go_enter Try.func37, Try.ntmps37
    go_wp2_with ((with_reducible refine HG.out.mono ?_); rintro e w' ⟨rfl, rfl⟩)
    go_ret
    exact ⟨rfl, HM0.out _ (by repeat (first | exact Below.refl _ _ | assumption | (refine Below.setCell ?_ (by first | (simp; done) | (simp; omega) | omega) _) | (refine Below.alloc ?_ (by first | (simp; done) | (simp; omega) | omega) _) | (refine Below.drew ?_) | (refine Below.drewN' ?_ _)))⟩
  · rw [e]
    obtain ⟨g, hr, _, H⟩ := get_some h hl hn
    have HG := Lib.hid H
    have hc := hr.1.cell
    rw [hu] at hc
    clear h hS hW hn e hr H hu
    go_enter Try.func37, Try.ntmps37
    go_wp2_with ((with_reducible refine HG.out.mono ?_); rintro e w' ⟨rfl, rfl⟩)
    go_ret
    exact ⟨rfl, HM0.out _ (by repeat (first | exact Below.refl _ _ | assumption | (refine Below.setCell ?_ (by first | (simp; done) | (simp; omega) | omega) _) | (refine Below.alloc ?_ (by first | (simp; done) | (simp; omega) | omega) _) | (refine Below.drew ?_) | (refine Below.drewN' ?_ _)))⟩
  · rw [e]
    obtain ⟨h0, hn1, h02⟩ := DT.get_some hn
    obtain ⟨i, rfl⟩ : ∃ i : Nat, id = i := ⟨id.toNat, by omega⟩
    simp only [Int.toNat_natCast] at hn1 hm e ⊢
    obtain ⟨gn, hrn, hgn, H⟩ := get_some h hl hn
    have HG := Lib.hid H
    have hcn := hrn.1.cell
    rw [hu] at hcn
    have hcn4 : w.cell? ⟨gn.b, 4, none⟩ = some (I (up : Int)) := hcn 4
    have hul := DT.at_lt hp
    obtain ⟨nb, ncap, hnv, hncap, hnmx, hnode⟩ := h.nodes_open hW
    obtain ⟨gp, hcellp, hrp, hgp⟩ := hnode up p hp
    have htree := h.tree.cell
    have htl := h.tree.lt
    have hil := DT.at_lt hn1
    have hkl := kids_len hW hp
    obtain ⟨A, cap, hv, hcap, hmx, hA⟩ := hrp.2.2.form
    have hne : gn.b ≠ gp.b := by
      intro e
      exact h.node_apart hgn hgp (fun e' => (hW.up_ne hn1 hu) (by simpa using e'.symm)) gn.b (by simp [NG.blocks]) (by rw [e]; simp [NG.blocks])
    have hgn' : G[i]? = some (some gn) := by simpa using hgn
    have hpi : up ≠ i := hW.up_ne hn1 hu
    have hkvg : gp.kv.ownBlock ≠ some gp.b := (NG.b_ne (h.node_nodup hgp)).2.1
    have hkvk : gp.kv.ownBlock ≠ some gn.b := fun e => h.node_apart hgp hgn' hpi gn.b (by simp [NG.blocks, e]) (by simp [NG.blocks])
    have hkvl : ∀ b, gp.kv.ownBlock = some b → b < w.heap.size := fun b hb => h.lt b (mem_repBlocks_node hgp (by simp [NG.blocks, hb]))
    have hix : p.kids.idxOf i < p.kids.length := List.idxOf_lt_length_iff.2 hm
    have hrow := hrp.2.2
    rw [kidCells_map] at hrow
    have hidx : idxI (p.kids.map fun (k : Nat) => (k : Int)) (i : Int) = (p.kids.idxOf i : Int) := by rw [idxI_kids]; simp [hm]
    have hcp := hrp.1.cell
    have hgpl := hrp.1.lt
    have hgnl := hrn.1.lt
    have HI := Lib.hid (fun (W : World) (hb : Below w.heap.size w W) => index_any (hrow.keep hb) (by omega) (i : Int))
    have HX := Lib.hid (And.intro h (And.intro hS (And.intro hW (And.intro hp (And.intro hn1 (And.intro hgp (And.intro hgn' (And.intro hrp (And.intro hrn hv)))))))))
    have herase := erase_take p.kids i hm
    have hle : (p.kids.erase i).length = p.kids.length - 1 := List.length_erase_of_mem hm
    have HD : Hid (∀ (W : World), Below w.heap.size w W → Calls Try.prog 118 #[.slice A p.kids.length cap, .int .i64 (p.kids.idxOf i : Nat), .int .i64 ((p.kids.idxOf i : Nat) + 1)] W fun e w2 =>
        ∃ (A' : Option Addr) (cap' : Nat), e = .returned (.slice A' (p.kids.length - 1) cap') ∧ Row w2 3 1 (.slice A' (p.kids.length - 1) cap') (p.kids.erase i).length (kidCells (p.kids.erase i)) ∧ Only (fun b => gp.kv.ownBlock = some b) W w2 ∧ (∀ b, (Value.slice A' (p.kids.length - 1) cap').ownBlock = some b → gp.kv.ownBlock = some b ∨ W.heap.size ≤ b) ∧
          At w2 gp.b 139 #[I p.tag, gp.av, .string p.text, .slice A p.kids.length cap, I (DT.upI p.up)] ∧ At w2 gn.b 139 #[I n.tag, gn.av, .string n.text, gn.kv, I (up : Int)]) := by
      intro W hb
      have h1 := delete_any (hrow.keep hb) hix
      rw [hv, show ((p.kids.idxOf i + 1 : Nat) : Int) = ((p.kids.idxOf i : Nat) : Int) + 1 from rfl] at h1
      refine h1.mono ?_
      rintro e w2 ⟨v', rfl, hr, hO, hn⟩
      obtain ⟨A', cap', rfl, _⟩ := hr.form
      have hz := hb.size
      refine ⟨A', cap', rfl, ?_, by rw [hv]; exact hO, fun b hb1 => .inl (by rw [hv, ← hn]; exact hb1), ?_, ?_⟩
      · rw [hle, ← herase]
        have e1 : kidCells (p.kids.take (p.kids.idxOf i) ++ p.kids.drop (p.kids.idxOf i + 1)) = ((p.kids.map fun (k : Nat) => (k : Int)).take (p.kids.idxOf i) ++ (p.kids.map fun (k : Nat) => (k : Int)).drop (p.kids.idxOf i + 1)).map (Value.int .i64) := by
          simp only [kidCells, List.map_append, List.map_take, List.map_drop, List.map_map]; rfl
        rw [e1]; exact hr
      · have h2 := hrp.1.keep hb
        rw [hv] at h2
        exact (hO.block gp.b (by omega) (by rw [← hv]; exact hkvg)).trans h2
      · have h2 := hrn.1.keep hb
        rw [hu] at h2
        exact (hO.block gn.b (by omega) (by rw [← hv]; exact hkvk)).trans h2
    rw [hidx] at HI
    rw [hv] at hcp HI
    subst hnv
    have HK := Lib.hid (And.intro hle (And.intro hpi hu))
    generalize p.kids.length = m at *
    generalize p.kids.idxOf i = ix at *
    generalize T.nodes.length = N at *
    have hNl : ((N : Nat) : Int) ≤ 2000 := by omega
    have hml : ((m : Nat) : Int) ≤ 2000 := by omega
    clear h hS hW hn hn1 hu hp hm e hrn hgn hgn' H hcn hnode hrp hgp hrow hidx hv herase hle hkvg hkvk hkvl hA h0 h02 hpi
    have hne2 : gp.b ≠ gn.b := fun e => hne e.symm
    go_enter Try.func37, Try.ntmps37
    go_upto_region 8 with ((with_reducible refine HG.out.mono ?_); rintro e w' ⟨rfl, rfl⟩)
    go_quiet (fail)
    generalize hw1 : w.drewN nq = w1
    have hb1 : Below w.heap.size w w1 := by rw [← hw1]; exact Below.drewN' (Below.refl _ _) _
    obtain ⟨hc1, hf1⟩ := bcell hb1
    have hz1 := hb1.size
    have HB1 := Lib.hid hb1
    clear hw1 hb1
    go_wp2_with (first | ((with_reducible refine (HI.out _ HB1.out).mono ?_); rintro e w' ⟨rfl, rfl⟩) | ((with_reducible refine (HD.out _ HB1.out).mono ?_); rintro e w2 ⟨A', cap', rfl, hrow, hO, hnew, ha1, ha2⟩; have hac1 := ha1.cell; have haf1 := ha1.frozen; have hac2 := ha2.cell; have haf2 := ha2.frozen; have HR := Lib.hid (And.intro hrow (And.intro hO hnew)); clear hrow hO hnew ha1 ha2))
    go_ret
    refine ⟨rfl, ?_⟩
    exact Mut.linked (u := none) HX.out.1 HX.out.2.1 HX.out.2.2.2.1 HX.out.2.2.2.2.2.1 HX.out.2.2.2.2.2.2.2.1 HX.out.2.2.2.2.1 HX.out.2.2.2.2.2.2.1 HX.out.2.2.2.2.2.2.2.2.1 HK.out.2.1 HB1.out HR.out.1 HR.out.2.1 HR.out.2.2 rfl
end
end Go.Proofs.Ytnnjlpkjpbbklaa

-- DomDrop: Drop of package dom. Conditions: the tree lies in memory and is sound.
namespace Go.Proofs.Ytnnjlpkjpbbklaa
open Go.RowKit

namespace DT
variable {T : DT}
/-- Is a there, and within i? -/
def inB (T : DT) (i a : Nat) : Bool := (T.at_ a).isSome && T.within a i
theorem WF.inB_iff (hW : T.WF) {i a : Nat} : T.inB i a = true ↔ (∃ n, T.at_ a = some n) ∧ Anc T a i := by
  unfold inB
  cases ha : T.at_ a with
  | none => simp
  | some n => simp [hW.within_anc ha]
theorem WF.anc_kids (hW : T.WF) {i a : Nat} {n m : Nd} (hi : T.at_ i = some n) (ha : T.at_ a = some m) : Anc T a i ↔ a = i ∨ ∃ k ∈ n.kids, Anc T a k := by
  constructor
  · intro h
    induction h generalizing m with
    | refl => exact .inl rfl
    | @step a p o q ha' hu h ih =>
      obtain ⟨mp, hmp, hk⟩ := hW.par _ _ _ ha' hu
      rcases ih hi hmp with e | ⟨k, hk', hx⟩
      · subst e
        rw [hi] at hmp; cases hmp
        exact .inr ⟨a, hk, .refl _⟩
      · exact .inr ⟨k, hk', .step ha' hu hx⟩
  · rintro (e | ⟨k, hk, hx⟩)
    · subst e; exact .refl _
    · obtain ⟨mk, hmk, hu⟩ := hW.kid _ _ _ hi hk
      exact hx.trans (.step hmk hu (.refl _))
/-- What is dropped behind j kids. -/
def gone (T : DT) (X : Nat → Bool) (l : List Nat) (a : Nat) : Bool := X a || l.any fun k => T.inB k a
theorem gone_nil (X : Nat → Bool) : T.gone X [] = X := by funext a; simp [gone]
theorem gone_snoc (X : Nat → Bool) (l : List Nat) (k : Nat) : T.gone X (l ++ [k]) = fun a => T.gone X l a || T.inB k a := by
  funext a; simp [gone, Bool.or_assoc]
theorem WF.put_gone (hW : T.WF) {i : Nat} {n : Nd} (hi : T.at_ i = some n) (X : Nat → Bool) : (T.minus (T.gone X n.kids)).put i none = T.minus fun a => X a || T.inB i a := by
  refine ext_at rfl rfl (by rw [put_nodes_length, minus_length, minus_length]) fun a => ?_
  rw [at_minus]
  by_cases e : a = i
  · subst e
    rw [at_put' _ a a _ (by rw [minus_length]; exact at_lt hi), if_pos rfl]
    have : T.inB a a = true := hW.inB_iff.2 ⟨⟨n, hi⟩, .refl _⟩
    simp [this]
  · rw [at_put_ne _ e, at_minus]
    cases ha : T.at_ a with
    | none => simp
    | some m =>
      have h1 : T.inB i a = n.kids.any fun k => T.inB k a := by
        rw [Bool.eq_iff_iff, hW.inB_iff, List.any_eq_true]
        constructor
        · rintro ⟨_, h⟩
          rcases (hW.anc_kids hi ha).1 h with e' | ⟨k, hk, hx⟩
          · exact absurd e' e
          · exact ⟨k, hk, hW.inB_iff.2 ⟨⟨m, ha⟩, hx⟩⟩
        · rintro ⟨k, hk, hx⟩
          exact ⟨⟨m, ha⟩, (hW.anc_kids hi ha).2 (.inr ⟨k, hk, (hW.inB_iff.1 hx).2⟩)⟩
      rw [gone, h1]
end DT

section
variable {w : World} {tb : Nat} {T : DT} {nv : Value} {G : List (Option NG)}

/-- The row of nodes, opened at one that is there. -/
theorem Rep.place_open (h : Rep w tb T nv G) {i : Nat} {n : Nd} (hi : T.at_ i = some n) : ∃ g cap gb, nv = .slice (some ⟨g, 0, none⟩) T.nodes.length cap ∧ T.nodes.length ≤ cap ∧ cap ≤ maxLen ∧ i < T.nodes.length ∧
    w.cell? ⟨g, i, none⟩ = some (.pointer (some ⟨gb.b, 0, none⟩)) ∧ NodeRep w gb n ∧ G[i]? = some (some gb) := by
  have hil := DT.at_lt hi
  obtain ⟨g, cap, hv, hc, hm, hg, hcell⟩ := h.row.open_ (by rw [h.len]; omega)
  rw [h.len] at hv hc
  obtain ⟨gb, hgb, hr⟩ := h.node i n hi
  refine ⟨g, cap, gb, hv, hc, hm, hil, ?_, hr, hgb⟩
  rw [hcell i (by rw [h.len]; exact hil), List.getElem?_map, hgb]
  rfl

/-- A node is none any more. -/
theorem Rep.clear (h : Rep w tb T nv G) {i : Nat} {n : Nd} (hi : T.at_ i = some n) {g m cap : Nat} (hv : nv = .slice (some ⟨g, 0, none⟩) m cap) {c : Int} (hc : c = (T.count : Int) - 1) :
    Rep ((w.setCell ⟨g, i, none⟩ (.pointer none)).setCell ⟨tb, 2, none⟩ (I c)) tb (T.put i none) nv (G.set i none) ∧ (∀ b ∈ repBlocks tb nv (G.set i none), b ∈ repBlocks tb nv G) ∧ Only (fun b => b = tb ∨ nv.ownBlock = some b) w ((w.setCell ⟨g, i, none⟩ (.pointer none)).setCell ⟨tb, 2, none⟩ (I c)) := by
  have hil := DT.at_lt hi
  have hgo : nv.ownBlock = some g := by rw [hv]; rfl
  have hgne := h.row_ne hgo
  have hcount := T.count_put i none hil
  rw [hi] at hcount
  simp at hcount
  have hmv : m = G.length := by
    obtain ⟨g', cap', hv', _⟩ := h.row.open_ (by rw [h.len]; omega)
    rw [hv] at hv'; cases hv'; rfl
  subst hmv
  refine ⟨h.setPlace hil ?_ ?_ (by intro n hn; cases hn) (fun _ => rfl) ?_ (by simp [ngBlocks]) (by intro b hb; simp [ngBlocks] at hb), ?_, ?_⟩
  · exact At.set' (h.tree.far (p := ⟨g, i, none⟩) (fun e => hgne e.symm) _) (by rw [hc, ← hcount]; simp)
  · rw [List.map_set]
    refine Row.setAt h.row hv (by rw [h.len]; exact hil) ?_
    exact Below.heap_setCell _ _ _ _ hgne
  · intro b hb h1 h2
    rw [Below.heap_setCell _ _ _ _ h1, Below.heap_setCell _ _ _ _ (fun e => h2 (by rw [hgo]; exact congrArg some e.symm))]
  · exact Rep.set_blocks (fun b hb => hb) (fun b hb => by simp [ngBlocks] at hb)
  · refine ⟨rfl, rfl, rfl, by simp only [World.size_setCell]; exact Nat.le_refl _, fun b _ hn => ?_⟩
    simp only [not_or] at hn
    rw [Below.heap_setCell _ _ _ _ hn.1, Below.heap_setCell _ _ _ _ (fun e => hn.2 (by rw [hgo]; exact congrArg some e.symm))]

/-- What Drop's own function leaves. -/
def DropRet (T0 : DT) (tb : Nat) (nv : Value) (G : List (Option NG)) (Y : Nat → Bool) (w w' : World) : Prop := ∃ G', Rep w' tb (T0.minus Y) nv G' ∧ (∀ b ∈ repBlocks tb nv G', b ∈ repBlocks tb nv G) ∧ Only (fun b => b = tb ∨ nv.ownBlock = some b) w w'

theorem DropRet.then_ {T0 : DT} {Y Y' : Nat → Bool} {w1 w2 w3 : World} (h : DropRet T0 tb nv G Y w1 w2) (k : ∀ G', Rep w2 tb (T0.minus Y) nv G' → DropRet T0 tb nv G' Y' w2 w3) : DropRet T0 tb nv G Y' w1 w3 := by
  obtain ⟨G1, hr, hs, ho⟩ := h
  obtain ⟨G2, hr2, hs2, ho2⟩ := k G1 hr
  exact ⟨G2, hr2, fun b hb => hs b (hs2 b hb), ho.trans ho2 fun i _ hi => hi⟩

set_option maxHeartbeats 1000000 in
theorem drop1_at {T0 : DT} (hW : T0.WF) {tc dc : Nat} (htc : tc ≠ tb) (hdc : dc ≠ tb) (hrt : nv.ownBlock ≠ some tc) (hrd : nv.ownBlock ≠ some dc) : ∀ (f : Nat) (i : Nat) (n : Nd), T0.at_ i = some n → 41 ≤ f + T0.depthF DT.fuel i → ∀ (w : World) (X : Nat → Bool) (G : List (Option NG)),
    Rep w tb (T0.minus X) nv G → (∀ a, X a = true → ¬ DT.Anc T0 a i) → At w tc 36 #[.pointer (some ⟨tb, 0, none⟩)] → At w dc 149 #[.func (.func 120) #[] #[.pointer (some ⟨tc, 0, none⟩), .pointer (some ⟨dc, 0, none⟩)]] →
    Calls Try.prog 120 #[I (i : Int), .pointer (some ⟨tc, 0, none⟩), .pointer (some ⟨dc, 0, none⟩)] w fun e w' => e = .returned (.tuple #[]) ∧ DropRet T0 tb nv G (fun a => X a || T0.inB i a) w w' := by
  intro f
  induction f with
  | zero => intro i n hi hf; have := hW.depth_le hi; omega
  | succ f ih =>
    intro i n hi hf w X G h hX hA hD
    have hXi : X i = false := by
      cases hx : X i with
      | false => rfl
      | true => exact absurd (.refl _) (hX i hx)
    have hi' : (T0.minus X).at_ i = some n := by rw [DT.at_minus, hXi]; exact hi
    obtain ⟨g, cap, gb, hv, hcap, hmax, hil, hcell, hr, hg⟩ := h.place_open hi'
    have htree := h.tree.cell
    have hkl : n.kids.length ≤ T0.nodes.length := kids_len hW hi
    have hl := hW.nodes_le
    have hlen : (T0.minus X).nodes.length = T0.nodes.length := DT.minus_length X
    rw [hlen] at hv hcap hil
    obtain ⟨KA, kcap, hkv, hkcap, hkmx, hKA⟩ := hr.2.2.form
    have hcn := hr.1.cell
    have hAc := hA.cell
    have hDc := hD.cell
    have hgo : nv.ownBlock = some g := by rw [hv]; rfl
    have hgt := h.row_ne hgo
    have hnode := h.node_ne hg
    have hK : Hid (∀ (j k : Nat) (wr : World), Only (fun b => b = tb ∨ nv.ownBlock = some b) w wr → n.kids[j]? = some k → ∃ a, KA = some ⟨a, 0, none⟩ ∧ wr.cell? ⟨a, j, none⟩ = some (.int .i64 (k : Int))) := by
      intro j k wr ho hjk
      obtain ⟨hj, e⟩ := List.getElem?_eq_some_iff.1 hjk
      obtain ⟨ga, cap', hv', _, _, hgl', hcell⟩ := hr.2.2.open_ (by omega)
      have hkb : gb.kv.ownBlock = some ga := by rw [hv']; rfl
      have hne := hnode ga (by simp [NG.blocks, hkb])
      rw [hkv] at hv'
      injection hv' with h1 h2 h3
      refine ⟨ga, h1, ?_⟩
      rw [World.cell?_of_block (a := ⟨ga, j, none⟩) (ho.block ga hgl' (by simp only [not_or]; exact hne)), hcell j hj, kidCells_get _ _ hj, e]
    have hS : Hid (∀ wr, Only (fun b => b = tb ∨ nv.ownBlock = some b) w wr → At wr tc 36 #[.pointer (some ⟨tb, 0, none⟩)] ∧ At wr dc 149 #[.func (.func 120) #[] #[.pointer (some ⟨tc, 0, none⟩), .pointer (some ⟨dc, 0, none⟩)]]) := by
      intro wr ho
      refine ⟨(ho.block tc hA.lt ?_).trans hA, (ho.block dc hD.lt ?_).trans hD⟩
      · simp only [not_or]; exact ⟨htc, hrt⟩
      · simp only [not_or]; exact ⟨hdc, hrd⟩
    have IH : Hid (∀ (l1 : List Nat) (k : Nat) (l2 : List Nat), n.kids = l1 ++ k :: l2 → ∀ (wr : World) (G : List (Option NG)), Rep wr tb (T0.minus (T0.gone X l1)) nv G → Only (fun b => b = tb ∨ nv.ownBlock = some b) w wr →
        Calls Try.prog 120 #[I (k : Int), .pointer (some ⟨tc, 0, none⟩), .pointer (some ⟨dc, 0, none⟩)] wr fun e w' => e = .returned (.tuple #[]) ∧ DropRet T0 tb nv G (T0.gone X (l1 ++ [k])) wr w') := by
      intro l1 k l2 hks wr G hr ho
      have hkm : k ∈ n.kids := by rw [hks]; simp
      obtain ⟨m, hm, hu, hd⟩ := hW.kid_depth hi hkm
      have hnd := hW.nodup i n hi
      rw [hks] at hnd
      rw [DT.gone_snoc]
      refine ih k m hm (by omega) wr _ G hr (fun a ha hx => ?_) (hS.out wr ho).1 (hS.out wr ho).2
      unfold DT.gone at ha
      rw [Bool.or_eq_true, List.any_eq_true] at ha
      rcases ha with ha | ⟨k', hk', ha⟩
      · exact hX a ha (hx.trans (.step hm hu (.refl _)))
      · obtain ⟨⟨ma, hma⟩, hx'⟩ := hW.inB_iff.1 ha
        -- a within two kids of one node
        have hk'm : k' ∈ n.kids := by rw [hks]; simp [hk']
        obtain ⟨m', hm', hu', hd'⟩ := hW.kid_depth hi hk'm
        have hne : k' ≠ k := fun e => by
          subst e
          exact (List.nodup_append.1 hnd).2.2 k' hk' k' (by simp) rfl
        have key : ∀ a b c, DT.Anc T0 a b → DT.Anc T0 a c → DT.Anc T0 b c ∨ DT.Anc T0 c b := by
          intro a b c h1
          induction h1 with
          | refl => intro h2; exact .inl h2
          | step hi hu h ih =>
            intro h2
            cases h2 with
            | refl => exact .inr (.step hi hu h)
            | step hi2 hu2 h2 => rw [hi] at hi2; cases hi2; rw [hu] at hu2; cases hu2; exact ih h2
        rcases key a k k' hx hx' with h1 | h1
        · rcases h1.step_inv hm hu with e | h2
          · exact hne e.symm
          · exact hW.no_loop hm' hu' h2
        · rcases h1.step_inv hm' hu' with e | h2
          · exact hne e
          · exact hW.no_loop hm hu h2
    have HX := Lib.hid (And.intro h (And.intro hi (And.intro hX hA)))
    have HW := Lib.hid hW
    rw [hkv] at hcn
    have hcn3 : w.cell? ⟨gb.b, 3, none⟩ = some (.slice KA n.kids.length kcap) := hcn 3
    have hm0 : Hid (n.kids.length = n.kids.length) := Lib.hid rfl
    obtain ⟨m, hm⟩ : ∃ m, m = n.kids.length := ⟨_, rfl⟩
    rw [← hm] at hcn3 hkl hkcap
    have HM := Lib.hid hm
    subst hv
    have hgl := h.row.lt g rfl
    have htl := h.tree.lt
    have hgc : g ≠ tc := fun e => hrt (by rw [e]; rfl)
    have hcg : tc ≠ g := fun e => hgc e.symm
    have htg : tb ≠ g := fun e => hgt e.symm
    have hNl : ((T0.nodes.length : Nat) : Int) ≤ 2000 := by omega
    have hml : ((m : Nat) : Int) ≤ 2000 := by omega
    have hil' : i < T0.nodes.length := hil
    generalize T0.nodes.length = N at *
    clear hm h hi hi' hX hA hD hr hg hkv hKA hlen hnode hcn ih hW hf
    go_enter Try.func120, Try.ntmps120
    go_wp2_with fail
    go_loopw [5, 17] (fun _ s17 wr => ∃ j : Nat, j ≤ m ∧ s17 = .int .i64 (j : Int) ∧ Hid (DropRet T0 tb (.slice (some ⟨g, 0, none⟩) N cap) G (T0.gone X (n.kids.take j)) w wr)) (fun _ s17 _ => m - (intOf s17).toNat)
    case atStart =>
      refine ⟨0, Nat.zero_le _, rfl, G, ?_, fun b hb => hb, Only.refl _ _⟩
      rw [List.take_zero, DT.gone_nil]
      exact HX.out.1
    case round =>
      obtain ⟨j, hj, rfl, hst⟩ := hrel
      obtain ⟨G', hr', hs', ho'⟩ := hst.out
      have hat := hS.out wr ho'
      have hA1 := hat.1.cell
      have hD1 := hat.2.cell
      have hzr := ho'.size
      have HST := Lib.hid (And.intro hr' (And.intro hs' ho'))
      have hT1 := hr'.tree.cell
      have hT2 := hr'.tree.frozen
      by_cases hlt : j < m
      · obtain ⟨k, hk⟩ : ∃ k, n.kids[j]? = some k := ⟨_, List.getElem?_eq_getElem (by have := HM.out; omega)⟩
        obtain ⟨a, rfl, hkc⟩ := hK.out j k wr ho' hk
        have hjl := (List.getElem?_eq_some_iff.1 hk).1
        have e1 : n.kids.take (j + 1) = n.kids.take j ++ [k] := by rw [List.take_add_one, hk]; rfl
        have e2 : n.kids = n.kids.take j ++ k :: n.kids.drop (j + 1) := by
          have h1 := List.take_append_drop j n.kids
          rw [List.drop_eq_getElem_cons hjl, (List.getElem?_eq_some_iff.1 hk).2] at h1
          exact h1.symm
        have HC := Lib.hid (IH.out _ k _ e2 wr G' hr' ho')
        have HE := Lib.hid e1
        clear e1 e2 hk hr' hs' ho' hst hat hjl
        go_wp2_with ((with_reducible refine HC.out.mono ?_); rintro e w2 ⟨rfl, hD⟩; have HDD := Lib.hid hD; clear hD)
        refine ⟨⟨j + 1, by omega, by go_num, ?_⟩, by simp [intOf]; omega⟩
        obtain ⟨G2, hr2, hs2, ho2⟩ := HDD.out
        exact ⟨G2, by rw [HE.out]; exact hr2, fun b hb => HST.out.2.1 b (hs2 b hb), HST.out.2.2.trans ho2 fun i _ hi => hi⟩
      · have hjm : j = m := by omega
        subst hjm
        have e1 : n.kids.take j = n.kids := List.take_of_length_le (by have := HM.out; omega)
        rw [e1] at hr' HST hst hT1
        have hgi : T0.gone X n.kids i = false := by
          unfold DT.gone
          rw [Bool.or_eq_false_iff]
          refine ⟨hXi, ?_⟩
          rw [List.any_eq_false]
          intro k hk hx
          obtain ⟨m', hm', hu'⟩ := HW.out.kid _ _ _ HX.out.2.1 hk
          exact HW.out.no_loop hm' hu' (HW.out.inB_iff.1 hx).2
        have hi2 : (T0.minus (T0.gone X n.kids)).at_ i = some n := by rw [DT.at_minus, hgi]; exact HX.out.2.1
        obtain ⟨g2, cap2, gb2, hv2, _, _, _, hcell2, _, hg2⟩ := hr'.place_open hi2
        have eg : g2 = g := by
          injection hv2 with h1 _ _
          injection h1 with h1
          injection h1 with h1 _ _
          exact h1.symm
        rw [eg] at hcell2
        clear hv2 eg
        have hrf := hr'.row.frozen_own rfl i
        have hcnt := (T0.minus (T0.gone X n.kids)).count_put i none (DT.at_lt hi2)
        rw [hi2] at hcnt
        simp at hcnt
        have hcl : (T0.minus (T0.gone X n.kids)).count ≤ 2000 := Nat.le_trans List.countP_le_length (by rw [DT.minus_length]; exact HW.out.nodes_le)
        have HC2 := Lib.hid (hr'.clear hi2 rfl (c := ((T0.minus (T0.gone X n.kids)).count : Int) - 1) rfl)
        have HP := Lib.hid (HW.out.put_gone HX.out.2.1 X)
        have hgl' := hr'.row.lt g rfl
        have htl' := hr'.tree.lt
        have hc1 : 1 ≤ (T0.minus (T0.gone X n.kids)).count := by omega
        generalize hcn : (T0.minus (T0.gone X n.kids)).count = cn at *
        have HCN := Lib.hid hcn
        clear hcn hcnt hi2 hgi e1 hr' hs' ho' hst hat hg2
        go_wp2_with fail
        have hC := HC2.out
        rw [HP.out] at hC
        go_end0
        exact ⟨rfl, _, hC.1, fun b hb => HST.out.2.1 b (hC.2.1 b hb), HST.out.2.2.trans hC.2.2 fun i _ hi => hi⟩

set_option maxHeartbeats 1000000 in
theorem dropNode_any (h : Rep w tb T nv G) {S : Nat → Prop} (hS : ∀ b ∈ repBlocks tb nv G, S b) (hW : T.WF) (id : Int) :
    Calls Try.prog 40 #[.pointer (some ⟨tb, 0, none⟩), I id] w fun e w' => e = .returned (I (T.drop id).1) ∧ Mut tb (T.drop id).2 S w w' := by
  have hl := hW.nodes_le
  have HM0 := Lib.hid (fun (W : World) (hW : Below w.heap.size w W) => Mut.of_below h hS hW)
  unfold DT.drop
  cases hn : T.get id with
  | none =>
    have HG := Lib.hid (fun (W : World) (hb : Below w.heap.size w W) => get_none (h.keep hb) hl hn)
    clear h hS hW hn
    go_enter Try.func40, Try.ntmps40
    go_wp2_with ((with_reducible refine (HG.out _ (by repeat (first | exact Below.refl _ _ | assumption | (refine Below.setCell ?_ (by first | (simp; done) | (simp; omega) | omega) _) | (refine Below.alloc ?_ (by first | (simp; done) | (simp; omega) | omega) _) | (refine Below.drew ?_) | (refine Below.drewN' ?_ _)))).mono ?_); rintro e w' ⟨rfl, rfl⟩)
    go_ret
    exact ⟨rfl, HM0.out _ (by repeat (first | exact Below.refl _ _ | assumption | (refine Below.setCell ?_ (by first | (simp; done) | (simp; omega) | omega) _) | (refine Below.alloc ?_ (by first | (simp; done) | (simp; omega) | omega) _) | (refine Below.drew ?_) | (refine Below.drewN' ?_ _)))⟩
  | some n =>
    dsimp only
    obtain ⟨p, hp, HG⟩ := get_ptr h hl id
    obtain ⟨g, hp', hr, hg⟩ := h.ptr_some hn
    rw [hp] at hp'
    cases hp'
    have HG := Lib.hid HG
    have hc := hr.1.cell
    have hgl := hr.1.lt
    obtain ⟨h0, h1, h2⟩ := DT.get_some hn
    obtain ⟨i, rfl⟩ : ∃ i : Nat, id = i := ⟨id.toNat, by omega⟩
    simp only [Int.toNat_natCast] at h1 ⊢
    have HD : Hid (∀ (W : World) (tc dc : Nat), Below w.heap.size w W → At W tc 36 #[.pointer (some ⟨tb, 0, none⟩)] → At W dc 149 #[.func (.func 120) #[] #[.pointer (some ⟨tc, 0, none⟩), .pointer (some ⟨dc, 0, none⟩)]] → w.heap.size ≤ tc → w.heap.size ≤ dc →
        Calls Try.prog 120 #[I (i : Int), .pointer (some ⟨tc, 0, none⟩), .pointer (some ⟨dc, 0, none⟩)] W fun e w' => e = .returned (.tuple #[]) ∧ Mut tb (T.dropped i) S w w') := by
      intro W tc dc hb hA hB htc hdc
      have hz := hb.size
      have hrl := h.lt
      have htl := hrl tb (by simp [repBlocks])
      have hR := h.keep hb
      have e0 : T.minus (fun _ => false) = T := DT.ext_at rfl rfl (DT.minus_length _) fun j => by rw [DT.at_minus]; rfl
      rw [← e0] at hR
      have hrow : ∀ b, nv.ownBlock = some b → b < w.heap.size := fun b hb => hrl b (by simp [repBlocks, hb])
      refine (drop1_at hW (tb := tb) (nv := nv) (by omega) (by omega) (fun e => by have := hrow _ e; omega) (fun e => by have := hrow _ e; omega) 41 i n h1 (by omega) W (fun _ => false) G hR (fun a ha => by cases ha) hA hB).mono ?_
      rintro e w' ⟨he, G', hr', hs', ho'⟩
      have e1 : T.minus (fun a => false || T.inB i a) = T.dropped i := by
        unfold DT.dropped; congr 1
      rw [e1] at hr'
      refine ⟨he, ⟨nv, G', hr', fun b hb1 => .inl (hS b (hs' b hb1))⟩, (Only.of_below (S := S) hb).trans (ho'.mono (S' := S) fun b hb1 => ?_) fun i _ hi => hi⟩
      rcases hb1 with e | e
      · rw [e]; exact hS _ (by simp [repBlocks])
      · exact hS _ (by simp [repBlocks, e])
    generalize hU : DT.upI n.up = u at *
    clear h hS hW hn hr hg hp h1 h2 h0 hU
    by_cases hbad : (i : Int) = 0 ∨ 0 ≤ u
    · rw [if_pos hbad]
      have hc : ((i : Int) == 0) = true ∨ (((i : Int) == 0) = false ∧ decide (0 ≤ u) = true) := by
        simp only [beq_iff_eq, beq_eq_false_iff_ne, decide_eq_true_eq]
        omega
      clear hbad
      rcases hc with c1 | ⟨c1, c2⟩
      all_goals
        go_enter Try.func40, Try.ntmps40
        go_wp2_with ((with_reducible refine (HG.out _ (by repeat (first | exact Below.refl _ _ | assumption | (refine Below.setCell ?_ (by first | (simp; done) | (simp; omega) | omega) _) | (refine Below.alloc ?_ (by first | (simp; done) | (simp; omega) | omega) _) | (refine Below.drew ?_) | (refine Below.drewN' ?_ _)))).mono ?_); rintro e w' ⟨rfl, rfl⟩)
        go_ret
        exact ⟨rfl, HM0.out _ (by repeat (first | exact Below.refl _ _ | assumption | (refine Below.setCell ?_ (by first | (simp; done) | (simp; omega) | omega) _) | (refine Below.alloc ?_ (by first | (simp; done) | (simp; omega) | omega) _) | (refine Below.drew ?_) | (refine Below.drewN' ?_ _)))⟩
    · rw [if_neg hbad]
      have c1 : ((i : Int) == 0) = false := by simp; omega
      have c2 : decide (0 ≤ u) = false := by simp; omega
      clear hbad
      go_enter Try.func40, Try.ntmps40
      go_wp2_with (first | ((with_reducible refine (HG.out _ (by repeat (first | exact Below.refl _ _ | assumption | (refine Below.setCell ?_ (by first | (simp; done) | (simp; omega) | omega) _) | (refine Below.alloc ?_ (by first | (simp; done) | (simp; omega) | omega) _) | (refine Below.drew ?_) | (refine Below.drewN' ?_ _)))).mono ?_); rintro e w' ⟨rfl, rfl⟩) | ((with_reducible refine (HD.out _ _ _ (by repeat (first | exact Below.refl _ _ | assumption | (refine Below.setCell ?_ (by first | (simp; done) | (simp; omega) | omega) _) | (refine Below.alloc ?_ (by first | (simp; done) | (simp; omega) | omega) _) | (refine Below.drew ?_) | (refine Below.drewN' ?_ _))) (by (repeat' (first | (with_reducible assumption) | (with_reducible refine unhid ?_; with_reducible assumption) | (with_reducible refine At.fresh _ _ _ (by first | (simp; done) | (simp; omega) | omega)) | (with_reducible apply At.set') | (with_reducible apply At.far) | (with_reducible apply At.alloc) | (with_reducible apply At.drew) | (with_reducible apply At.drewN) | exact (rfl : Array.setIfInBounds _ _ _ = _) | (refine Ne.symm ?_; simp; done) | (show _ ≠ _; simp; done) | (show _ ≠ _; simp; omega) | (show _ ≠ _; omega))); (first | done | fail)) (by (repeat' (first | (with_reducible assumption) | (with_reducible refine unhid ?_; with_reducible assumption) | (with_reducible refine At.fresh _ _ _ (by first | (simp; done) | (simp; omega) | omega)) | (with_reducible apply At.set') | (with_reducible apply At.far) | (with_reducible apply At.alloc) | (with_reducible apply At.drew) | (with_reducible apply At.drewN) | exact (rfl : Array.setIfInBounds _ _ _ = _) | (refine Ne.symm ?_; simp; done) | (show _ ≠ _; simp; done) | (show _ ≠ _; simp; omega) | (show _ ≠ _; omega))); (first | done | fail)) (by first | (simp; done) | (simp; omega) | omega) (by first | (simp; done) | (simp; omega) | omega)).mono ?_); rintro e w2 ⟨rfl, hM⟩; have HMM := Lib.hid hM; clear hM))
      go_ret
      exact ⟨rfl, HMM.out⟩
end
end Go.Proofs.Ytnnjlpkjpbbklaa
