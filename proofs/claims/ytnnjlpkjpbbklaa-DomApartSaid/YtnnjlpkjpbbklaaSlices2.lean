/-
  slices.Insert at []int, the other three roads; the four in one; slices.Delete of one element. Conditions: none.
-/
import Derived.Test.YtnnjlpkjpbbklaaSlices
set_option linter.unusedVariables false
set_option linter.unusedSimpArgs false
namespace Go.Proofs.Ytnnjlpkjpbbklaa
open Go.RowKit Go.Shelf

theorem insert_end_room {w : World} {g n cap vb : Nat} {zs : List Int} {x : Int} (h : Row w 3 1 (.slice (some ⟨g, 0, none⟩) n cap) n (zs.map (Value.int .i64))) (hroom : n + 1 ≤ cap) (hv : At w vb 3 #[I x]) :
    Calls Try.prog 116 #[.slice (some ⟨g, 0, none⟩) n cap, .int .i64 n, .slice (some ⟨vb, 0, none⟩) 1 1] w (RowIns (.slice (some ⟨g, 0, none⟩) n cap) (n + 1) (zs.map (Value.int .i64) ++ [I x]) w) := by
  generalize zs.map (Value.int .i64) = xs at *
  rcases h.2 with ⟨h0, _⟩ | ⟨g', cap', cur, hv', _, hg, hc, hm, hs, ht⟩
  · cases h0
  · cases hv'
    have hxl : xs.length = n := by simpa using h.1
    have hA : At w g 3 cur := hg
    simp only [Nat.mul_one] at hs ht
    have hcell : ∀ j, w.cell? ⟨g, j, none⟩ = cur[j]? := hA.cell
    refine (Any2.slices_Insert_int_end_room laysInsert g 0 n cap vb 0 1 1 [I x] w (by omega) hroom (by unfold maxLen at hm; omega) rfl (fun j hj => ?_) (fun j hj => by rw [hA.frozen]) (fun j v hj => ?_) (by intro v hv'; simp at hv'; rw [hv']; rfl)).mono ?_
    · rw [hcell, Array.getElem?_eq_getElem (by omega)]; rfl
    · rw [Nat.zero_add, hv.cell]
      cases j with
      | zero => simpa using hj
      | succ j => simp at hj
    · rintro e w' ⟨rfl, rfl⟩
      have hA1 : At (w.setCells g (0 + n) [I x]) g 3 (wr cur (0 + n) [I x]) := At.setCells _ _ hA
      have p1 := setCells_plain g [I x] (0 + n) w
      refine ⟨_, rfl, ⟨?_, .inr ⟨g, cap, _, rfl, Nat.zero_le _, hA1, hroom, hm, ?_, ?_⟩⟩, ⟨p1.2.1, p1.2.2.1, p1.2.2.2, Nat.le_of_eq p1.1.symm, ?_⟩, fun b hb => .inl hb⟩
      · simp; omega
      · rw [wr_size, hs, Nat.mul_one]
      · simp only [Nat.mul_one, Nat.zero_add]
        rw [wr_list _ _ _ (by simp; omega)]
        rw [ht]
        have : (xs ++ ([I x] ++ cur.toList.drop (n + [I x].length))) = (xs ++ [I x]) ++ cur.toList.drop (n + [I x].length) := by simp
        rw [this, List.take_append_of_le_length (by simp; omega), List.take_of_length_le (by simp; omega)]
      · intro k hk hn
        have hkg : k ≠ g := fun e => hn (by rw [e]; rfl)
        rw [setCells_other _ _ _ _ _ hkg]

theorem zeroCells_size (n : Nat) : (Builtin.zeroCells (Value.int .i64 0).cells n).size = n := by
  simp [Builtin.zeroCells, Value.cells]
theorem zero_size (ys : List Value) (c : Nat) {m : Nat} (hl : ys.length = m) (hc : m ≤ c) : (ys.toArray ++ Builtin.zeroCells (Value.int .i64 0).cells (c - m)).size = c := by
  rw [Array.size_append, zeroCells_size]; simp; omega
theorem zero_size2 (ys : List Value) (a b : Nat) : (ys.toArray ++ Builtin.zeroCells (Value.int .i64 0).cells a ++ Builtin.zeroCells (Value.int .i64 0).cells b).size = ys.length + a + b ∧ (ys.toArray ++ Builtin.zeroCells (Value.int .i64 0).cells a ++ Builtin.zeroCells (Value.int .i64 0).cells b).toList.take ys.length = ys := by
  constructor
  · rw [Array.size_append, Array.size_append, zeroCells_size, zeroCells_size]; simp
  · rw [Array.toList_append, Array.toList_append, List.append_assoc, List.take_append_of_le_length (by simp), List.take_of_length_le (by simp)]

theorem below_cells {B b : Nat} {a : World} (hb : B ≤ b) : ∀ (vs : List Value) (o : Nat) (w : World), Below B a w → Below B a (w.setCells b o vs)
  | [], _, _, h => h
  | v :: r, o, _, h => below_cells hb r (o + 1) _ (Below.setCell h hb v)

theorem new_row {w w' : World} {base : Option Addr} {n cap : Nat} {ys : List Value} {cur : Array Value} (hn : n ≤ 1000000) (hA : At w' w.heap.size 3 cur) (hb : Below w.heap.size w w') (hl : ys.length = n + 1)
    (hs : cur.size = grownCap w (n + 1) cap 3) (ht : cur.toList.take (n + 1) = ys) :
    RowIns (.slice base n cap) (n + 1) ys w (.returned (.slice (some ⟨w.heap.size, 0, none⟩) (n + 1) (grownCap w (n + 1) cap 3))) w' := by
  refine ⟨_, rfl, ⟨by simpa using hl, .inr ⟨w.heap.size, _, cur, rfl, Nat.zero_le _, hA, grownCap_ge _ _ _ _, grownCap_le_maxLen _ _ _ _ (by unfold maxLen; omega), by rw [hs, Nat.mul_one], by rw [Nat.mul_one]; exact ht⟩⟩, Only.of_below hb, fun b hb1 => ?_⟩
  simp [Value.ownBlock] at hb1
  right; omega

theorem insert_end_grow {w : World} {base : Option Addr} {n cap vb : Nat} {zs : List Int} {x : Int} (h : Row w 3 1 (.slice base n cap) n (zs.map (Value.int .i64))) (hn : n ≤ 1000000) (hroom : cap < n + 1) (hv : At w vb 3 #[I x]) :
    Calls Try.prog 116 #[.slice base n cap, .int .i64 n, .slice (some ⟨vb, 0, none⟩) 1 1] w (RowIns (.slice base n cap) (n + 1) (zs.map (Value.int .i64) ++ [I x]) w) := by
  have hR := h.reads
  generalize zs.map (Value.int .i64) = xs at *
  have hxl : xs.length = n := by simpa using h.1
  have hnc : n ≤ cap := by
    obtain ⟨A, c, he, hc, _⟩ := h.form
    cases he; exact hc
  have hcs : ∀ a, base = some a → ∀ j v, xs[j]? = some v → w.cell? (a.add j) = some v := by
    intro a ha j v hj
    rcases hR.2 with ⟨h0, hn0⟩ | ⟨A, c, he, hc⟩
    · cases h0; cases ha
    · cases he; cases ha; exact hc j v hj
  refine (Any2.slices_Insert_int_end_grow laysInsert base n cap vb 0 1 1 xs [I x] w (by omega) hnc hroom (by omega) hxl rfl (fun hb => ?_) hcs (fun j v hj => ?_) (by intro v hv'; simp at hv'; rw [hv']; rfl)).mono ?_
  · rcases hR.2 with ⟨h0, hn0⟩ | ⟨A, c, he, hc⟩
    · exact hn0
    · cases he; cases hb
  · rw [Nat.zero_add, hv.cell]
    cases j with
    | zero => simpa using hj
    | succ j => simp at hj
  · rintro e w' ⟨rfl, rfl⟩
    change RowIns _ _ _ _ (.returned (.slice (some ⟨w.heap.size, 0, none⟩) (n + 1) (grownCap w (n + 1) cap 3))) (w.drew.alloc (.cells ((xs ++ [I x]).toArray ++ Builtin.zeroCells (Value.int .i64 0).cells (grownCap w (n + 1) cap 3 - (n + 1))) 3))
    have hb : Below w.heap.size w (w.drew.alloc (.cells ((xs ++ [I x]).toArray ++ Builtin.zeroCells (Value.int .i64 0).cells (grownCap w (n + 1) cap 3 - (n + 1))) 3)) := (Below.drew (Below.refl _ _)).alloc (Nat.le_refl _) _
    exact new_row (base := base) (cap := cap) (hn := hn) (hA := At.fresh w.drew 3 _ rfl) (hb := hb) (hl := by simp [hxl]) (hs := zero_size _ _ (by simp; omega) (grownCap_ge w (n + 1) cap 3)) (ht := by rw [Array.toList_append, List.take_append_of_le_length (by simp; omega), List.take_of_length_le (by simp; omega)])

theorem insert_grow {w : World} {g n cap i vb : Nat} {zs : List Int} {x : Int} (h : Row w 3 1 (.slice (some ⟨g, 0, none⟩) n cap) n (zs.map (Value.int .i64))) (hn : n ≤ 1000000) (hi : i < n) (hroom : cap < n + 1) (hv : At w vb 3 #[I x]) :
    Calls Try.prog 116 #[.slice (some ⟨g, 0, none⟩) n cap, .int .i64 i, .slice (some ⟨vb, 0, none⟩) 1 1] w (RowIns (.slice (some ⟨g, 0, none⟩) n cap) (n + 1) ((zs.map (Value.int .i64)).take i ++ (I x :: (zs.map (Value.int .i64)).drop i)) w) := by
  have hone := ints_one (zs := zs)
  have hcs : ∀ j v, (zs.map (Value.int .i64))[j]? = some v → w.cell? ⟨g, 0 + j, none⟩ = some v := by
    intro j v hj
    have := h.cells (g := g) rfl j v hj
    rw [Addr.add_lit] at this
    exact this
  generalize zs.map (Value.int .i64) = xs at *
  have hxl : xs.length = n := by simpa using h.1
  have hnc : n ≤ cap := by
    obtain ⟨A, c, he, hc, _⟩ := h.form
    cases he; exact hc
  refine (Any2.slices_Insert_int_grow laysInsert g 0 n cap i vb 0 1 1 xs [I x] w hi (by omega) hnc hroom (by omega) hxl rfl hcs (fun j v hj => ?_) hone (by intro v hv'; simp at hv'; rw [hv']; rfl)).mono ?_
  · rw [Nat.zero_add, hv.cell]
    cases j with
    | zero => simpa using hj
    | succ j => simp at hj
  · rintro e w' ⟨rfl, rfl⟩
    change RowIns _ _ _ _ (.returned (.slice (some ⟨w.heap.size, 0, none⟩) (n + 1) (grownCap w (n + 1) cap 3))) ((((w.alloc (.cells ((xs.take i).toArray ++ Builtin.zeroCells (Value.int .i64 0).cells (n + 1 - i) ++ Builtin.zeroCells (Value.int .i64 0).cells (grownCap w (n + 1) cap 3 - (n + 1))) 3)).drew.setCells w.heap.size i [I x]).drew).setCells w.heap.size (i + 1) (xs.drop i))
    have hge := grownCap_ge w (n + 1) cap 3
    have hsz := zero_size2 (xs.take i) (n + 1 - i) (grownCap w (n + 1) cap 3 - (n + 1))
    have hA := At.setCells (xs.drop i) (i + 1) (At.drew (At.setCells [I x] i (At.drew (At.fresh w 3 ((xs.take i).toArray ++ Builtin.zeroCells (Value.int .i64 0).cells (n + 1 - i) ++ Builtin.zeroCells (Value.int .i64 0).cells (grownCap w (n + 1) cap 3 - (n + 1))) rfl))))
    have hlen : (xs.take i).length = i := by simp; omega
    generalize ((xs.take i).toArray ++ Builtin.zeroCells (Value.int .i64 0).cells (n + 1 - i) ++ Builtin.zeroCells (Value.int .i64 0).cells (grownCap w (n + 1) cap 3 - (n + 1))) = cur at *
    obtain ⟨hs1, ht1⟩ := hsz
    rw [hlen] at hs1 ht1
    have hb : Below w.heap.size w (((w.alloc (.cells cur 3)).drew.setCells w.heap.size i [I x]).drew.setCells w.heap.size (i + 1) (xs.drop i)) :=
      below_cells (Nat.le_refl _) _ _ _ (Below.drew (below_cells (Nat.le_refl _) _ _ _ (Below.drew ((Below.refl _ _).alloc (Nat.le_refl _) _))))
    refine new_row (base := some ⟨g, 0, none⟩) (cap := cap) (hn := hn) (hA := hA) (hb := hb) (hl := by simp; omega) (hs := by rw [wr_size, wr_size, hs1]; omega) (ht := ?_)
    rw [wr_list _ _ _ (by rw [wr_size]; simp; omega), wr_list _ _ _ (by simp; omega)]
    have a1 : (cur.toList.take i ++ ([I x] ++ cur.toList.drop (i + [I x].length))).take (i + 1) = xs.take i ++ [I x] := by
      rw [ht1]
      have : xs.take i ++ ([I x] ++ cur.toList.drop (i + [I x].length)) = (xs.take i ++ [I x]) ++ cur.toList.drop (i + [I x].length) := by simp
      rw [this, List.take_append_of_le_length (by simp; omega), List.take_of_length_le (by simp; omega)]
    rw [a1]
    have a2 : ∀ r, (xs.take i ++ [I x]) ++ (xs.drop i ++ r) = (xs.take i ++ (I x :: xs.drop i)) ++ r := by intro r; simp
    rw [a2, List.take_append_of_le_length (by simp; omega), List.take_of_length_le (by simp; omega)]

/-- slices.Insert of one element, wherever. -/
theorem insert_any {w : World} {v : Value} {n i vb : Nat} {zs : List Int} {x : Int} (h : Row w 3 1 v n (zs.map (Value.int .i64))) (hn : n ≤ 1000000) (hi : i ≤ n) (hv : At w vb 3 #[I x]) (hne : v.ownBlock ≠ some vb) :
    Calls Try.prog 116 #[v, .int .i64 i, .slice (some ⟨vb, 0, none⟩) 1 1] w (RowIns v (n + 1) ((zs.map (Value.int .i64)).take i ++ (I x :: (zs.map (Value.int .i64)).drop i)) w) := by
  have hxl : (zs.map (Value.int .i64)).length = n := by simpa using h.1
  have hend : i = n → (zs.map (Value.int .i64)).take i ++ (I x :: (zs.map (Value.int .i64)).drop i) = zs.map (Value.int .i64) ++ [I x] := by
    intro e
    rw [List.take_of_length_le (by omega), List.drop_eq_nil_of_le (by omega)]
  obtain ⟨A, cap, rfl, hcap, hmax, hA⟩ := h.form
  by_cases hin : i = n
  · rw [hend hin, hin]
    by_cases hroom : n + 1 ≤ cap
    · rcases h.2 with ⟨h0, hn0⟩ | ⟨g, cap', cur, hv', _⟩
      · cases h0; omega
      · cases hv'
        exact insert_end_room h hroom hv
    · exact insert_end_grow h hn (by omega) hv
  · rcases h.2 with ⟨h0, hn0⟩ | ⟨g, cap', cur, hv', _⟩
    · omega
    · cases hv'
      by_cases hroom : n + 1 ≤ cap
      · exact insert_shift h (by omega) hroom hv (fun e => hne (by rw [e]; rfl))
      · exact insert_grow h hn (by omega) (by omega) hv
end Go.Proofs.Ytnnjlpkjpbbklaa
