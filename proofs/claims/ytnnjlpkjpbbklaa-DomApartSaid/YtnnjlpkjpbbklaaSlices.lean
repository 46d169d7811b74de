/-
  slices.Insert and slices.Delete at []int (laid by the shelf's commands at this program: plain words), over rows of a tree's own. Conditions: none.
-/
import Derived.Ground.Names2Prog
import Derived.Shelf.Slices.Cells
import Derived.Shelf.Spec.SlicesInsert
import Derived.Shelf.Spec.SlicesInsertGrow
import Derived.Test.YtnnjlpkjpbbklaaDomSet2
set_option linter.unusedVariables false
set_option linter.unusedSimpArgs false
namespace Go.Proofs.Ytnnjlpkjpbbklaa
open Go.RowKit Go.Shelf

def laysInsert_ren : Go.Shelf.Ren := ⟨fun | 21 => 116 | 27 => 169 | 28 => 170 | 35 => 185 | 39 => 150 | n => n, fun | 22 => 81 | 3 => 3 | 4 => 4 | 0 => 0 | n => n, fun | n => n⟩
theorem laysInsert : Go.Proofs.Lays2.n21 Try.prog laysInsert_ren := {
  mixed := by kernel_rfl
  f21 := Try.func116.trans (congrArg some (by kernel_rfl))
  f27 := Try.func169.trans (congrArg some (by kernel_rfl))
  f28 := Try.func170.trans (congrArg some (by kernel_rfl))
  f35 := Try.func185.trans (congrArg some (by kernel_rfl))
  f39 := Try.func150.trans (congrArg some (by kernel_rfl))
  t0 := Try.underlying0
  a0 := Try.isAgg0
  z0 := Try.sizeOf0
  v0 := Try.zeroValue0
  t3 := Try.underlying3
  a3 := Try.isAgg3
  z3 := Try.sizeOf3
  v3 := Try.zeroValue3
  t4 := Try.underlying4
  a4 := Try.isAgg4
  z4 := Try.sizeOf4
  v4 := Try.zeroValue4
  t22 := Try.underlying81
  a22 := Try.isAgg81
  z22 := Try.sizeOf81
  v22 := Try.zeroValue81
  i3 := by kernel_rfl }
def laysDelete_ren : Go.Shelf.Ren := ⟨fun | 23 => 118 | n => n, fun | 22 => 81 | 3 => 3 | 4 => 4 | 0 => 0 | n => n, fun | n => n⟩
theorem laysDelete : Go.Proofs.Lays2.n23 Try.prog laysDelete_ren := {
  mixed := by kernel_rfl
  f23 := Try.func118.trans (congrArg some (by kernel_rfl))
  t0 := Try.underlying0
  a0 := Try.isAgg0
  z0 := Try.sizeOf0
  v0 := Try.zeroValue0
  t3 := Try.underlying3
  a3 := Try.isAgg3
  z3 := Try.sizeOf3
  v3 := Try.zeroValue3
  t4 := Try.underlying4
  a4 := Try.isAgg4
  z4 := Try.sizeOf4
  v4 := Try.zeroValue4
  t22 := Try.underlying81
  a22 := Try.isAgg81
  z22 := Try.sizeOf81
  v22 := Try.zeroValue81
  i3 := by kernel_rfl }

/-- Cells written one behind the other. -/
def wr : Array Value → Nat → List Value → Array Value
  | cs, _, [] => cs
  | cs, o, v :: r => wr (cs.setIfInBounds o v) (o + 1) r
theorem At.setCells {b : Nat} {t : TypeId} : ∀ (vs : List Value) (o : Nat) {w : World} {cs : Array Value}, At w b t cs → At (w.setCells b o vs) b t (wr cs o vs)
  | [], _, _, _, h => h
  | v :: r, o, _, _, h => At.setCells r (o + 1) (h.set o v)
theorem wr_size : ∀ (vs : List Value) (o : Nat) (cs : Array Value), (wr cs o vs).size = cs.size
  | [], _, _ => rfl
  | v :: r, o, cs => by rw [wr, wr_size r]; simp
theorem wr_list : ∀ (vs : List Value) (o : Nat) (cs : Array Value), o + vs.length ≤ cs.size → (wr cs o vs).toList = cs.toList.take o ++ (vs ++ cs.toList.drop (o + vs.length))
  | [], o, cs, _ => by simp [wr]
  | v :: r, o, cs, h => by
    simp only [List.length_cons] at h
    rw [wr, wr_list r (o + 1) _ (by simp; omega)]
    simp only [Array.toList_setIfInBounds, List.length_cons]
    have hl : o < cs.toList.length := by simp; omega
    rw [List.take_set, List.drop_set_of_lt (by omega)]
    rw [List.take_succ_eq_append_getElem hl]
    have e : (List.take o cs.toList).length = o := by simp; omega
    rw [List.set_append_right _ _ (by omega), e]
    rw [show o + 1 + r.length = o + (r.length + 1) by omega, Nat.sub_self]
    simp
theorem setCells_other (b : Nat) : ∀ (vs : List Value) (o : Nat) (w : World) (k : Nat), k ≠ b → (w.setCells b o vs).heap[k]? = w.heap[k]?
  | [], _, _, _, _ => rfl
  | v :: r, o, w, k, h => by rw [World.setCells, setCells_other b r _ _ k h, Below.heap_setCell _ _ _ _ h]
theorem setCells_plain (b : Nat) : ∀ (vs : List Value) (o : Nat) (w : World), (w.setCells b o vs).heap.size = w.heap.size ∧ (w.setCells b o vs).os = w.os ∧ (w.setCells b o vs).tape = w.tape ∧ (w.setCells b o vs).output = w.output
  | [], _, _ => ⟨rfl, rfl, rfl, rfl⟩
  | v :: r, o, w => by
    have h := setCells_plain b r (o + 1) (w.setCell ⟨b, o, none⟩ v)
    rw [World.setCells]
    refine ⟨h.1.trans (World.size_setCell _ _ _), h.2.1, h.2.2.1, h.2.2.2⟩

theorem lst_shift (xs cur : List Value) (n i : Nat) (x : Value) (hx : cur.take n = xs) (hl : xs.length = n) (hi : i ≤ n) (hc : n + 1 ≤ cur.length) :
    ((cur.take (i + 1) ++ (xs.drop i ++ cur.drop (i + 1 + (xs.drop i).length))).take i ++ ([x] ++ (cur.take (i + 1) ++ (xs.drop i ++ cur.drop (i + 1 + (xs.drop i).length))).drop (i + 1))).take (n + 1) = xs.take i ++ (x :: xs.drop i) := by
  have h1 : (cur.take (i + 1) ++ (xs.drop i ++ cur.drop (i + 1 + (xs.drop i).length))).take i = xs.take i := by
    rw [List.take_append_of_le_length (by simp; omega), List.take_take, ← hx, List.take_take, Nat.min_eq_left (by omega), Nat.min_eq_left (by omega)]
  have h2 : (cur.take (i + 1) ++ (xs.drop i ++ cur.drop (i + 1 + (xs.drop i).length))).drop (i + 1) = xs.drop i ++ cur.drop (i + 1 + (xs.drop i).length) := by
    rw [List.drop_append_of_le_length (by simp; omega), List.drop_eq_nil_of_le (by simp; omega)]
    rfl
  rw [h1, h2]
  have e : (xs.take i ++ ([x] ++ (xs.drop i ++ cur.drop (i + 1 + (xs.drop i).length)))) = (xs.take i ++ (x :: xs.drop i)) ++ cur.drop (i + 1 + (xs.drop i).length) := by simp
  rw [e, List.take_append_of_le_length (by simp; omega), List.take_of_length_le (by simp; omega)]

/-- What an inserting call leaves. -/
def RowIns (v : Value) (n : Nat) (ys : List Value) (w : World) (e : Ending) (w' : World) : Prop :=
  ∃ v', e = .returned v' ∧ Row w' 3 1 v' n ys ∧ Only (fun b => v.ownBlock = some b) w w' ∧ ∀ b, v'.ownBlock = some b → v.ownBlock = some b ∨ w.heap.size ≤ b

theorem ints_one {zs : List Int} : ∀ u ∈ zs.map (Value.int .i64), u.oneCell' = true := by
  intro u hu
  obtain ⟨z, _, rfl⟩ := List.mem_map.1 hu
  rfl

/-- In the middle, where there is room. -/
theorem insert_shift {w : World} {g n cap i vb : Nat} {zs : List Int} {x : Int} (h : Row w 3 1 (.slice (some ⟨g, 0, none⟩) n cap) n (zs.map (Value.int .i64))) (hi : i < n) (hroom : n + 1 ≤ cap) (hv : At w vb 3 #[I x]) (hne : vb ≠ g) :
    Calls Try.prog 116 #[.slice (some ⟨g, 0, none⟩) n cap, .int .i64 i, .slice (some ⟨vb, 0, none⟩) 1 1] w (RowIns (.slice (some ⟨g, 0, none⟩) n cap) (n + 1) ((zs.map (Value.int .i64)).take i ++ (I x :: (zs.map (Value.int .i64)).drop i)) w) := by
  have hone := ints_one (zs := zs)
  generalize zs.map (Value.int .i64) = xs at *
  rcases h.2 with ⟨h0, _⟩ | ⟨g', cap', cur, hv', _, hg, hc, hm, hs, ht⟩
  · cases h0
  · cases hv'
    have hxl : xs.length = n := by simpa using h.1
    have hA : At w g 3 cur := hg
    simp only [Nat.mul_one] at hs ht
    have hcell : ∀ j, w.cell? ⟨g, j, none⟩ = cur[j]? := hA.cell
    have hct : ∀ j v, xs[j]? = some v → w.cell? ⟨g, 0 + j, none⟩ = some v := by
      intro j v hj
      rw [Nat.zero_add, hcell j, ← Array.getElem?_toList]
      rw [← ht, List.getElem?_take] at hj
      split at hj
      · exact hj
      · cases hj
    refine (Any2.slices_Insert_int_shift laysInsert g 0 n cap i vb 0 1 1 xs [I x] w hi (by omega) hroom (by unfold maxLen at hm; omega) hne hxl rfl hct (fun j hj => ?_) (fun j hj => by rw [hA.frozen]) (fun j v hj => ?_) hone (by intro v hv'; simp at hv'; rw [hv']; rfl) 3 3 1 cap ?_ ?_ (by omega) (hv.frozen _) (hv.frozen _)).mono ?_
    · rw [hcell, Nat.zero_add, Array.getElem?_eq_getElem (by omega)]; rfl
    · rw [Nat.zero_add, hv.cell]
      cases j with
      | zero => simpa using hj
      | succ j => simp at hj
    · have hv' : w.heap[vb]? = some (.cells #[I x] 3 (0, 0)) := hv
      simp [World.shape?, hv']
    · simp [World.shape?, hg, hs]
    · rintro e w' ⟨rfl, rfl⟩
      have hA1 : At ((w.drew.setCells g (0 + (i + 1)) (xs.drop i)).setCells g (0 + i) [I x]) g 3 (wr (wr cur (0 + (i + 1)) (xs.drop i)) (0 + i) [I x]) := At.setCells _ _ (At.setCells _ _ hA.drew)
      have p1 := setCells_plain g (xs.drop i) (0 + (i + 1)) w.drew
      have p2 := setCells_plain g [I x] (0 + i) (w.drew.setCells g (0 + (i + 1)) (xs.drop i))
      refine ⟨_, rfl, ⟨?_, .inr ⟨g, cap, _, rfl, Nat.zero_le _, hA1, hroom, hm, ?_, ?_⟩⟩, ⟨?_, ?_, ?_, ?_, ?_⟩, fun b hb => .inl hb⟩
      · simp; omega
      · rw [wr_size, wr_size, hs, Nat.mul_one]
      · simp only [Nat.mul_one, Nat.zero_add]
        rw [wr_list _ _ _ (by rw [wr_size]; simp; omega), wr_list _ _ _ (by simp; omega)]
        exact lst_shift xs cur.toList n i (I x) ht hxl (by omega) (by simp; omega)
      · exact p2.2.1.trans p1.2.1
      · exact p2.2.2.1.trans p1.2.2.1
      · exact p2.2.2.2.trans p1.2.2.2
      · exact Nat.le_of_eq (p2.1.trans p1.1).symm
      · intro k hk hn
        have hkg : k ≠ g := fun e => hn (by rw [e]; rfl)
        rw [setCells_other _ _ _ _ _ hkg, setCells_other _ _ _ _ _ hkg]
        rfl
end Go.Proofs.Ytnnjlpkjpbbklaa
