/-
  A handed row of chapter 8's calls, and a handed plain tree, as they lie in memory. Conditions: they read as data.
-/
import Derived.Test.YtnnjlpkjpbbklaaCalls
import Derived.Deep.Slices
import Derived.Lib.SmallJoins
set_option linter.unusedVariables false
set_option linter.unusedSimpArgs false
namespace Go.Proofs.Ytnnjlpkjpbbklaa
open Go.RowKit Go.ChangeShapes Go.WideShapes

/-- Inside the heap. -/
def InW (w : World) (b : Nat) : Prop := b < w.heap.size

theorem list_of {α : Type} {P : Nat → α → Prop} : ∀ (n : Nat), (∀ i, i < n → ∃ a, P i a) → ∃ l : List α, l.length = n ∧ ∀ i (h : i < l.length), P i l[i] := by
  intro n
  induction n with
  | zero => intro _; exact ⟨[], rfl, fun i h => by simp at h⟩
  | succ n ih =>
    intro h
    obtain ⟨l, hl, hp⟩ := ih fun i hi => h i (by omega)
    obtain ⟨a, ha⟩ := h n (by omega)
    refine ⟨l ++ [a], by simp [hl], fun i hi => ?_⟩
    by_cases hin : i < l.length
    · rw [List.getElem_append_left hin]; exact hp i hin
    · have e : i = l.length := by simp at hi; omega
      subst e
      rw [List.getElem_append_right (by omega)]
      simp only [Nat.sub_self, List.getElem_singleton]
      rw [hl]; exact ha

theorem flat_get {α : Type} (f : α → List Value) {size : Nat} (hf : ∀ a, (f a).length = size) : ∀ (l : List α) (i : Nat) (hi : i < l.length) (q : Nat), q < size → (l.flatMap f)[i * size + q]? = (f l[i])[q]? := by
  intro l
  induction l with
  | nil => intro i hi; simp at hi
  | cons k ks ih =>
    intro i hi q hq
    have hk := hf k
    rw [List.flatMap_cons]
    cases i with
    | zero => rw [List.getElem?_append_left (by omega)]; simp
    | succ i =>
      have h1 : (i + 1) * size = i * size + size := Nat.succ_mul i size
      rw [List.getElem?_append_right (by omega)]
      rw [show (i + 1) * size + q - (f k).length = i * size + q by omega, ih i (by simpa using hi) q hq]
      simp
theorem flat_length {α : Type} (f : α → List Value) {size : Nat} (hf : ∀ a, (f a).length = size) (l : List α) : (l.flatMap f).length = l.length * size := by
  induction l with
  | nil => simp
  | cons k ks ih => rw [List.flatMap_cons, List.length_append, ih, hf, List.length_cons, Nat.succ_mul, Nat.add_comm]

section
variable {H : Type} {enc : TypeId × Value → H} {w : World} {spare : Nat → Bool} {held : Bool}

theorem row_open {α : Type} (f : α → List Value) {size : Nat} (hf : ∀ a, (f a).length = size) (hsz : 0 < size) (Q : α → Prop) {t e : TypeId} {fuel : Nat} {cs : List Value} {x : DataW H × List MemPlace}
    (ht : Try.prog.underlying t = some (.slice e)) (hc : Try.prog.cellsOf e = size)
    (each : ∀ n cs' y, n < fuel → DataW.trod enc Try.prog w 0 spare held n e cs' = some y → ∃ a, cs' = f a ∧ Q a)
    (h : DataW.trod enc Try.prog w 0 spare held fuel t cs = some x) : ∃ (v : Value) (l : List α), cs = [v] ∧ RowQ w (InW w) size v l.length (l.flatMap f) ∧ ∀ a ∈ l, Q a := by
  rcases DataW.trod_slice ht h with ⟨rfl, _⟩ | ⟨A, len, cap, elems, rest, n, rfl, rfl, _, _, hl, hm, hlen, hel, _, _⟩
  · exact ⟨_, [], rfl, RowQ.nil _ _ _, fun a ha => by cases ha⟩
  have hall : ∀ i, i < len → ∃ a, w.cells? 0 (A.add (i * size)) size = some (f a) ∧ Q a := by
    intro i hi
    have h1 := hel i hi
    rw [hc, List.getElem?_eq_getElem (by omega : i < elems.length)] at h1
    obtain ⟨cs', h2, h3⟩ := Option.bind_eq_some_iff.1 h1
    obtain ⟨a, rfl, hq⟩ := each n cs' _ (Nat.lt_succ_self n) h3
    exact ⟨a, h2, hq⟩
  obtain ⟨l, hll, hp⟩ := list_of len hall
  subst hll
  refine ⟨_, l, rfl, ⟨flat_length f hf l, ?_⟩, fun a ha => ?_⟩
  · by_cases h0 : l.length = 0
    · rw [h0]; exact .inr (.inl ⟨A, cap, rfl, rfl, hm⟩)
    right; right
    obtain ⟨b, off, spot⟩ := A
    obtain ⟨_, _, hcell0⟩ := World.cells?_some (hp 0 (by omega)).1
    have hg0 := hcell0 0 hsz
    rw [List.getElem?_eq_getElem (by rw [hf]; exact hsz)] at hg0
    have hspot : spot = none := by simpa [Addr.add] using World.cell?_spot hg0
    subst hspot
    have hbw : b < w.heap.size := by simpa [Addr.add] using World.block_lt_of_cell? w _ hg0
    refine ⟨b, off, cap, rfl, hl, hm, hbw, fun j u hu => ?_⟩
    have hj : j < l.length * size := by rw [← flat_length f hf l]; exact (List.getElem?_eq_some_iff.1 hu).1
    have hi : j / size < l.length := Nat.div_lt_of_lt_mul (by rw [Nat.mul_comm]; exact hj)
    have hq : j % size < size := Nat.mod_lt _ hsz
    have hdm : j / size * size + j % size = j := by rw [Nat.mul_comm]; exact Nat.div_add_mod j size
    have hg := flat_get f hf l (j / size) hi (j % size) hq
    rw [hdm, hu] at hg
    obtain ⟨_, _, hcell⟩ := World.cells?_some (hp (j / size) hi).1
    have hcj := hcell (j % size) hq
    rw [← hg, add_plain, add_plain, Nat.add_assoc, hdm] at hcj
    exact hcj
  · obtain ⟨i, hi, rfl⟩ := List.getElem_of_mem ha
    exact (hp i hi).2

theorem cut_at {n k o : Nat} {T : TypeId} {cs cs' : List Value} {r : Option (DataW H × List MemPlace)} (hk : Try.prog.cellsOf T = k) (h : DataW.trod enc Try.prog w 0 spare held n T ((cs.drop o).take (Try.prog.cellsOf T)) = r) (hc : (cs.drop o).take k = cs') :
    DataW.trod enc Try.prog w 0 spare held n T cs' = r := by rw [hk, hc] at h; exact h

set_option maxRecDepth 100000 in
theorem attrs_open {fuel : Nat} {cs : List Value} {x : DataW H × List MemPlace} (h : DataW.trod enc Try.prog w 0 spare held fuel 38 cs = some x) :
    ∃ (v : Value) (al : List (Bytes × Bytes)), cs = [v] ∧ RowQ w (InW w) 2 v al.length (attrCells al) := by
  obtain ⟨v, al, h1, h2, _⟩ := row_open (fun a : Bytes × Bytes => [Value.string a.1, Value.string a.2]) (size := 2) (fun _ => rfl) (by omega) (fun _ => True) Try.underlying38 (by kernel_rfl) (fun n cs' y _ hy => by
    obtain ⟨y0, y1, m, _, hl, h0, h1⟩ := trod_struct2 Try.underlying55 hy
    rw [show Try.prog.cellsOf 55 = 2 by kernel_rfl] at hl
    match cs', hl with
    | [c0, c1], _ =>
      have g0 := cut_at (k := 1) (cs' := [c0]) (by kernel_rfl) h0 rfl
      have g1 := cut_at (k := 1) (cs' := [c1]) (by kernel_rfl) h1 rfl
      obtain ⟨s0, e0, _⟩ := DataW.trod_string Try.underlying9 g0
      obtain ⟨s1, e1, _⟩ := DataW.trod_string Try.underlying9 g1
      simp only [List.cons.injEq, and_true] at e0 e1
      subst e0 e1
      exact ⟨(s0, s1), rfl, trivial⟩) h
  exact ⟨v, al, h1, h2⟩

set_option maxRecDepth 100000 in
theorem node_open : ∀ (fuel : Nat) (cs : List Value) (x : DataW H × List MemPlace), DataW.trod enc Try.prog w 0 spare held fuel 41 cs = some x → ∃ V : VN, cs = V.cells ∧ PV w (InW w) V := by
  intro fuel
  induction fuel using Nat.strongRecOn with
  | _ fuel ih =>
    intro cs x h
    obtain ⟨xs, n, rfl, _, hl, hlen, hfs⟩ := DataW.trod_struct Try.underlying41 h
    rw [show Try.prog.cellsOf 41 = 4 by kernel_rfl] at hl
    match cs, hl, xs, hlen with
    | [c0, c1, c2, c3], _, [y0, y1, y2, y3], _ =>
      have g0 := cut_at (k := 1) (cs' := [c0]) (by kernel_rfl) (hfs 0 _ rfl) rfl
      have g1 := cut_at (k := 1) (cs' := [c1]) (by kernel_rfl) (hfs 1 _ rfl) rfl
      have g2 := cut_at (k := 1) (cs' := [c2]) (by kernel_rfl) (hfs 2 _ rfl) rfl
      have g3 := cut_at (k := 1) (cs' := [c3]) (by kernel_rfl) (hfs 3 _ rfl) rfl
      obtain ⟨t, e0, _⟩ := DataW.trod_int Try.underlying3 g0
      obtain ⟨av, al, e1, ha⟩ := attrs_open g1
      obtain ⟨s, e2, _⟩ := DataW.trod_string Try.underlying9 g2
      obtain ⟨kv, ks, e3, hk, hks⟩ := row_open VN.cells VN.cells_length (by omega) (PV w (InW w)) Try.underlying39 (by kernel_rfl) (fun m cs' y hm hy => ih m (by omega) cs' y hy) g3
      simp only [List.cons.injEq, and_true] at e0 e1 e2 e3
      subst e0 e1 e2 e3
      exact ⟨.mk t al s _ _ ks, rfl, .mk ha hk hks⟩

set_option maxRecDepth 100000 in
theorem calls_open {fuel : Nat} {cs : List Value} {x : DataW H × List MemPlace} (h : DataW.trod enc Try.prog w 0 spare held fuel 34 cs = some x) :
    ∃ (v : Value) (l : List CN), cs = [v] ∧ CallsAt w (InW w) v l := by
  obtain ⟨v, l, h1, h2, h3⟩ := row_open CN.cells CN.cells_length (by omega) (fun c : CN => RowQ w (InW w) 2 c.av c.attrs.length (attrCells c.attrs) ∧ PV w (InW w) c.n) Try.underlying34 (by kernel_rfl) (fun n cs' y _ hy => by
    obtain ⟨xs, m, _, _, hl, hlen, hfs⟩ := DataW.trod_struct Try.underlying46 hy
    rw [show Try.prog.cellsOf 46 = 10 by kernel_rfl] at hl
    match cs', hl, xs, hlen with
    | [c0, c1, c2, c3, c4, c5, c6, c7, c8, c9], _, [y0, y1, y2, y3, y4, y5, y6], _ =>
      have g0 := cut_at (k := 1) (cs' := [c0]) (by kernel_rfl) (hfs 0 _ rfl) rfl
      have g1 := cut_at (k := 1) (cs' := [c1]) (by kernel_rfl) (hfs 1 _ rfl) rfl
      have g2 := cut_at (k := 1) (cs' := [c2]) (by kernel_rfl) (hfs 2 _ rfl) rfl
      have g3 := cut_at (k := 1) (cs' := [c3]) (by kernel_rfl) (hfs 3 _ rfl) rfl
      have g4 := cut_at (k := 1) (cs' := [c4]) (by kernel_rfl) (hfs 4 _ rfl) rfl
      have g5 := cut_at (k := 1) (cs' := [c5]) (by kernel_rfl) (hfs 5 _ rfl) rfl
      have g6 := cut_at (k := 4) (cs' := [c6, c7, c8, c9]) (by kernel_rfl) (hfs 6 _ rfl) rfl
      obtain ⟨i0, e0, _⟩ := DataW.trod_int Try.underlying3 g0
      obtain ⟨i1, e1, _⟩ := DataW.trod_int Try.underlying3 g1
      obtain ⟨i2, e2, _⟩ := DataW.trod_int Try.underlying3 g2
      obtain ⟨i3, e3, _⟩ := DataW.trod_int Try.underlying3 g3
      obtain ⟨s, e4, _⟩ := DataW.trod_string Try.underlying9 g4
      obtain ⟨av, al, e5, ha⟩ := attrs_open g5
      obtain ⟨V, e6, hV⟩ := node_open _ _ _ g6
      simp only [List.cons.injEq, and_true] at e0 e1 e2 e3 e4 e5
      subst e0 e1 e2 e3 e4 e5
      refine ⟨⟨i0, i1, i2, i3, s, al, _, V⟩, ?_, ha, hV⟩
      show _ = [_, _, _, _, _, _] ++ V.cells
      rw [← e6]; rfl) h
  exact ⟨v, l, h1, ⟨h2, fun c hc => (h3 c hc).1, fun c hc => (h3 c hc).2⟩⟩

set_option maxRecDepth 100000 in
theorem arg_calls {r : Reach} {b0 : Nat} {v : Value} {d : DataW H} {ps : List MemPlace} (hval : Value.okWide Try.prog w r b0 34 v) (h : DataW.Trod enc Try.prog w 0 spare held 34 v d ps) : ∃ l, CallsAt w (InW w) v l := by
  obtain ⟨fuel, hf⟩ := h
  obtain ⟨v', l, h1, h2⟩ := calls_open hf
  obtain ⟨o, m, c, rfl⟩ := okWide_slice Try.underlying34 hval
  simp [Value.cells] at h1
  subst h1
  exact ⟨l, h2⟩
set_option maxRecDepth 100000 in
theorem arg_node {r : Reach} {b0 : Nat} {v : Value} {d : DataW H} {ps : List MemPlace} (hval : Value.okWide Try.prog w r b0 41 v) (h : DataW.Trod enc Try.prog w 0 spare held 41 v d ps) : ∃ V : VN, v = V.agg ∧ PV w (InW w) V := by
  obtain ⟨fuel, hf⟩ := h
  obtain ⟨V, h1, h2⟩ := node_open _ _ _ hf
  obtain ⟨cs, rfl, _⟩ := okWide_struct Try.underlying41 hval
  refine ⟨V, ?_, h2⟩
  cases V
  simp only [Value.cells, VN.cells] at h1
  simp only [VN.agg]
  congr 1
  exact Array.toList_inj.1 (by rw [h1])
end
end Go.Proofs.Ytnnjlpkjpbbklaa
