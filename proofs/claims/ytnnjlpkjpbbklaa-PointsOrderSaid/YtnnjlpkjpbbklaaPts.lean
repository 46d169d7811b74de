/-
  What package points computes: each function's contract. Conditions: none.
-/
import Derived.Test.YtnnjlpkjpbbklaaBase
set_option linter.unusedVariables false
set_option linter.unusedSimpArgs false
namespace Go.Proofs.Ytnnjlpkjpbbklaa
open Go.RowKit

def bad (n : Int) : Bool := decide (n < -1) || decide (1073741824 < n)

set_option maxHeartbeats 400000 in
theorem fit1_any (n : Int) (w : World) :
    Calls Try.prog 168 #[.int .i64 n] w fun e w' => e = .returned (.bool (bad n)) ∧ w = w' := by
  by_cases h : n < -1
  · have hd : decide (n < -1) = true := by simp [h]
    have H := Lib.hid (show bad n = true by simp [bad, h])
    go_enter Try.func168, Try.ntmps168
    go_wp2
    go_ret
    rw [H.out]
    exact ⟨rfl, rfl⟩
  · have hd : decide (n < -1) = false := by simp [h]
    have H := Lib.hid (show bad n = decide (1073741824 < n) by simp [bad, h])
    go_enter Try.func168, Try.ntmps168
    go_wp2
    go_ret
    rw [H.out]
    exact ⟨rfl, rfl⟩

def IdxPost (zs : List Int) (w : World) (e : Ending) (w' : World) : Prop :=
  ∃ k : Int, e = .returned (.int .i64 k) ∧ zs.any bad = decide (0 ≤ k) ∧ w = w'

set_option maxHeartbeats 400000 in
theorem indexFunc_fit (b n c : Nat) (zs : List Int) (w : World) (hl : zs.length = n) (hn : n ≤ 1000)
    (hc : ∀ j, j < n → w.cell? ⟨b, j, none⟩ = some (.int .i64 (zs.getD j 0))) :
    Calls Try.prog 184 #[.slice (some ⟨b, 0, none⟩) n c, .func (.func 168) #[] #[]] w (IdxPost zs w) := by
  have HL := Lib.hid hl; clear hl
  have HC := Lib.hid hc; clear hc
  go_enter Try.func184, Try.ntmps184
  go_wp2_with fail
  go_loop [5, 8] (fun _ i => ∃ k : Nat, k ≤ n ∧ i = .int .i64 k ∧ Hid ((zs.take k).any bad = false)) (fun _ i => n - (intOf i).toNat)
  case atStart => exact ⟨0, Nat.zero_le _, rfl, by simp [Hid]⟩
  case round =>
    obtain ⟨k, hk, rfl, hno⟩ := hrel
    by_cases hlt : k < n
    · have hcell := HC.out k hlt
      have hts := any_take_succ bad zs k (by have := HL.out; omega)
      generalize zs.getD k 0 = x at hcell hts
      have HT := Lib.hid hts; clear hts
      go_wp2_with (refine (fit1_any _ _).mono ?_; rintro e w' ⟨rfl, rfl⟩)
      · go_ret
        have hx : bad x = true := by assumption
        refine ⟨k, rfl, ?_, rfl⟩
        have h1 := HT.out
        rw [hx, Bool.or_true] at h1
        have := List.any_eq_true.1 h1
        obtain ⟨y, hy, hy2⟩ := this
        simp
        exact ⟨y, List.mem_of_mem_take hy, hy2⟩
      · have hx : bad x = false := by assumption
        refine ⟨⟨k + 1, by omega, by go_num, ?_⟩, by simp [intOf]; omega⟩
        show _ = _
        rw [HT.out, hx, hno.out]
        rfl
    · have hkn : k = n := by omega
      subst hkn
      go_wp2_with fail
      go_ret
      refine ⟨-1, rfl, ?_, rfl⟩
      have := hno.out
      rw [List.take_of_length_le (by have := HL.out; omega)] at this
      rw [this]; rfl

def fitB (nd a : Int) (l : List Int) : Bool := !(l ++ [nd, a]).any bad

theorem wpfit (zs : List Int) (k : Int) (h : zs.any bad = decide (0 ≤ k)) : (Value.bool !(decide (0 ≤ k))) = .bool (!zs.any bad) := by rw [h]

set_option maxHeartbeats 400000 in
theorem containsFunc_fit (b n c : Nat) (zs : List Int) (w : World) (hl : zs.length = n) (hn : n ≤ 1000)
    (hc : ∀ j, j < n → w.cell? ⟨b, j, none⟩ = some (.int .i64 (zs.getD j 0))) :
    Calls Try.prog 167 #[.slice (some ⟨b, 0, none⟩) n c, .func (.func 168) #[] #[]] w fun e w' => e = .returned (.bool (zs.any bad)) ∧ w = w' := by
  have H := indexFunc_fit b n c zs w hl hn hc
  clear hc
  go_enter Try.func167, Try.ntmps167
  go_wp2_with (refine H.mono ?_; rintro e w' ⟨k, rfl, hk, rfl⟩)
  go_ret
  exact ⟨ret_bool hk.symm, rfl⟩

set_option maxHeartbeats 400000 in
theorem fit_any (nd a : Int) (b n : Nat) (l : List Int) (w : World) (hl : l.length = n) (hn : n ≤ 10) (hb : b < w.heap.size)
    (hc : ∀ j, j < n → w.cell? ⟨b, j, none⟩ = some (.int .i64 (l.getD j 0))) :
    Calls Try.prog 108 #[.agg #[.int .i64 nd, .int .i64 a], .slice (some ⟨b, 0, none⟩) n n] w (Ret (.bool (fitB nd a l)) w) := by
  obtain ⟨i0, hi, hz0, hz1, hz2⟩ := info_parts infoInt
  have HC := Lib.hid hc; clear hc
  have HL := Lib.hid hl; clear hl
  go_enter Try.func108, Try.ntmps108
  go_wp2_with (at_builtin; refine wpList_append_grows _ rfl (.tmp 5) (.tmp 10) 81 rfl 3 i0 (.int .i64 0) 1 8 Try.underlying81 hi hz0 hz1 hz2 rfl (by decide) (some ⟨b, 0, none⟩) n n (l.map (Value.int .i64)) rfl ?n0 ?n1 ?n2 ⟨w.heap.size + 1, 0, none⟩ 2 2 [.int .i64 nd, .int .i64 a] rfl rfl ?c1 ?c2 ?c3 ?c4 ?c5 ?grow)
  case n0 => intro h; cases h
  case n1 => simp [HL.out]
  case n2 =>
    intro b1 e j u hu
    obtain rfl := Option.some.inj e
    have hj : j < n := by have := (List.getElem?_eq_some_iff.1 hu).1; simp [HL.out] at this; omega
    rw [Addr.add_lit, World.cell?_alloc_lt _ _ _ (by simp; omega), World.cell?_alloc_lt _ _ _ (by simp; omega)]
    have h1 := HC.out j hj
    have hl := HL.out
    rw [Nat.zero_add, h1, ← hu]
    simp [List.getD, show j < l.length by omega]
  case c1 => intro j u hj; match j, hj with | 0, hj => (simp at hj; subst hj; simp [Addr.add]) | 1, hj => (simp at hj; subst hj; simp [Addr.add]) | j + 2, hj => simp at hj
  case c2 => intro u hu; simp at hu; rcases hu with rfl | rfl <;> rfl
  case c3 => omega
  case c4 => unfold maxLen; omega
  case c5 => omega
  case grow =>
    intro v' w' hown hgrow
    have hbel : Below w.heap.size w w' := (((Below.refl _ _).alloc (Nat.le_refl _) _).alloc (by simp) _).grown hgrow (by simp; omega) (fun k h => by cases h)
    obtain ⟨g, cap', rfl⟩ : ∃ g cap', v' = .slice (some ⟨g, 0, none⟩) (n + 2) cap' := by
      rcases hown.2 with ⟨_, h⟩ | ⟨g, cap', _, h, _⟩
      · omega
      · exact ⟨g, cap', h⟩
    have hcells := hown.cells (g := g) rfl
    have hbd : n + 2 ≤ 1000 := by omega
    have hlen : (l ++ [nd, a]).length = n + 2 := by simp [HL.out]
    have hcc : ∀ j, j < n + 2 → w'.cell? ⟨g, j, none⟩ = some (.int .i64 ((l ++ [nd, a]).getD j 0)) := by
      intro j hj
      have := hcells j (.int .i64 ((l ++ [nd, a]).getD j 0)) (by
        rw [show (List.map (Value.int .i64) l ++ [.int .i64 nd, .int .i64 a]) = (l ++ [nd, a]).map (Value.int .i64) by simp]
        simp only [List.getElem?_map, List.getD]
        rw [List.getElem?_eq_getElem (by omega)]; simp)
      rwa [Addr.add_lit, Nat.zero_add] at this
    have HB := Lib.hid hbel
    have HK := Lib.hid (containsFunc_fit g (n + 2) cap' (l ++ [nd, a]) w' hlen hbd hcc)
    clear hcc hlen hcells hown hgrow hbel
    go_wp2_with (refine HK.out.mono ?_; rintro e w' ⟨rfl, rfl⟩)
    go_ret
    exact ⟨ret_bool (by simp [fitB]), HB.out⟩

theorem fitB_all {nd a : Int} {l : List Int} (h : fitB nd a l = true) : (-1 ≤ nd ∧ nd ≤ 1073741824) ∧ (-1 ≤ a ∧ a ≤ 1073741824) ∧ ∀ x ∈ l, -1 ≤ x ∧ x ≤ 1073741824 := by
  have key : ∀ x, x ∈ l ++ [nd, a] → -1 ≤ x ∧ x ≤ 1073741824 := by
    intro x hx
    have : ((l ++ [nd, a]).any bad) = false := by simpa [fitB] using h
    have := List.any_eq_false.1 this x hx
    simp [bad] at this
    omega
  exact ⟨key nd (by simp), key a (by simp), fun x hx => key x (by simp [hx])⟩

set_option maxHeartbeats 400000 in
theorem above_any (nd a n k : Int) (w : World) :
    Calls Try.prog 109 #[.agg #[.int .i64 nd, .int .i64 a], .int .i64 n, .int .i64 k] w (Ret (.bool (nd == n && decide (k < a))) w) := by
  by_cases h : nd = n
  · subst h
    have hd : (nd == nd) = true := by simp
    go_enter Try.func109, Try.ntmps109
    go_wp2
    go_ret
    exact ⟨ret_bool (by simp), (Below.refl _ _).alloc (Nat.le_refl _) _⟩
  · have hd : (nd == n) = false := by simp [h]
    go_enter Try.func109, Try.ntmps109
    go_wp2
    go_ret
    exact ⟨ret_bool (by simp [hd]), (Below.refl _ _).alloc (Nat.le_refl _) _⟩

set_option maxHeartbeats 400000 in
theorem to_any (n k : Int) (w : World) :
    Calls Try.prog 110 #[.int .i64 n, .int .i64 k] w (Ret (.agg #[.int .i64 n, .int .i64 k]) w) := by
  go_enter Try.func110, Try.ntmps110
  go_wp2
  exact bodyPost_ret (v := .agg #[.int .i64 n, .int .i64 k]) (by simp [results, Try.results110, go_sem]) rfl ⟨rfl, (Below.refl _ _).alloc (Nat.le_refl _) _⟩

abbrev PV (p : Int × Int) : Value := .agg #[.int .i64 p.1, .int .i64 p.2]

/-- fit, called upon a slice that was just made. -/
theorem fit_new (nd a : Int) (l : List Int) (w : World) (r : Bool) (hr : fitB nd a l = r) (hn : l.length ≤ 10) (n : Nat) (hl : l.length = n) (cs : Array Value) (hcs : cs = (l.map (Value.int .i64)).toArray) (b : Nat) (hb : b = w.heap.size) :
    Calls Try.prog 108 #[.agg #[.int .i64 nd, .int .i64 a], .slice (some ⟨b, 0, none⟩) n n] (w.alloc (.cells cs 3)) (Ret (.bool r) (w.alloc (.cells cs 3))) := by
  subst hr
  subst hb
  refine fit_any nd a w.heap.size n l _ hl (by omega) (by simp) ?_
  intro j hj
  subst hcs
  rw [World.cell?_alloc_new]
  simp [List.getD, show j < l.length by omega]

end Go.Proofs.Ytnnjlpkjpbbklaa
