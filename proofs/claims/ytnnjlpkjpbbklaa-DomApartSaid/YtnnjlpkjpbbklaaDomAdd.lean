/-
  Rows that are only read; slices.Clone of one; slices.IndexFunc over the nodes; add of package dom. Conditions: none.
-/
import Derived.Test.YtnnjlpkjpbbklaaDomRead5
import Derived.Test.YtnnjlpkjpbbklaaRep2
import Derived.Maps.AppendAt
set_option linter.unusedVariables false
set_option linter.unusedSimpArgs false
namespace Go.Proofs.Ytnnjlpkjpbbklaa
open Go.RowKit

/-- A slice value that reads as n elements, the cells xs, wherever it lies. -/
def RowR (w : World) (size : Nat) (v : Value) (n : Nat) (xs : List Value) : Prop :=
  xs.length = n * size ∧ ((v = .slice none 0 0 ∧ n = 0) ∨ ∃ A cap, v = .slice (some A) n cap ∧ ∀ j u, xs[j]? = some u → w.cell? (A.add j) = some u)

theorem Row.reads {w : World} {e : TypeId} {size : Nat} {v : Value} {n : Nat} {xs : List Value} (h : Row w e size v n xs) : RowR w size v n xs := by
  refine ⟨h.1, ?_⟩
  rcases h.2 with hn | ⟨g, cap, cur, rfl, hb, hg, r⟩
  · exact .inl hn
  · exact .inr ⟨_, cap, rfl, fun j u hu => h.cells (g := g) rfl j u hu⟩
theorem RowR.keep {w w' : World} {size : Nat} {v : Value} {n : Nat} {xs : List Value} (h : RowR w size v n xs) (hb : Below w.heap.size w w') : RowR w' size v n xs := by
  refine ⟨h.1, ?_⟩
  rcases h.2 with hn | ⟨A, cap, rfl, hc⟩
  · exact .inl hn
  · refine .inr ⟨A, cap, rfl, fun j u hu => ?_⟩
    have h1 := hc j u hu
    rw [hb.cell (World.block_lt_of_cell? w _ h1)]
    exact h1
theorem RowR.nil (w : World) (size : Nat) : RowR w size (.slice none 0 0) 0 [] := ⟨by simp, .inl ⟨rfl, rfl⟩⟩

theorem own_form {w : World} {B : Nat} {e : TypeId} {size : Nat} {v : Value} {n : Nat} {xs : List Value} (h : w.ownsRow B e size v n xs) : ∃ A cap, v = .slice A n cap := by
  rcases h.2 with ⟨rfl, rfl⟩ | ⟨g, cap, cur, rfl, _⟩
  · exact ⟨none, 0, rfl⟩
  · exact ⟨_, cap, rfl⟩

set_option maxHeartbeats 400000 in
theorem cloneAttrR_any {w : World} {v : Value} {n : Nat} {xs : List Value} (h : RowR w 2 v n xs) (hn : n ≤ 1000000) (h1 : ∀ u ∈ xs, u.oneCell' = true) :
    Calls Try.prog 113 #[v] w (RetRow 55 2 n xs w) := by
  have heq := fun (W : World) (A : Option Addr) (l c : Nat) => Lib.run_eql_slice_nil (P := Try.prog) W 38 55 A l c 0 0 Try.underlying38
  obtain ⟨i0, hi, hz0, hz1, hz2⟩ := info_parts infoAttr
  rcases h.2 with ⟨rfl, h0⟩ | ⟨A, cap, rfl, hcells⟩
  · subst h0
    have hx : xs = [] := List.eq_nil_of_length_eq_zero (by simpa using h.1)
    subst hx
    clear h
    go_enter Try.func113, Try.ntmps113
    go_wp2_with fail
    go_ret
    exact ⟨_, rfl, World.ownsRow_nil _ _ _ _, Below.refl _ _⟩
  · have hl := h.1
    have HH := Lib.hid (And.intro hcells (And.intro hl h1))
    clear hcells hl h1 h
    go_enter Try.func113, Try.ntmps113
    go_wp2_with (at_builtin; refine wpList_append_own _ rfl (.tmp 5) (.tmp 6) 38 rfl w.heap.size 55 i0 (.agg #[.string ByteArray.empty, .string ByteArray.empty]) 2 32 Try.underlying38 hi hz0 hz1 hz2 rfl (by decide) (.slice (some ⟨w.heap.size, 0, none⟩) 0 0) 0 [] rfl ?own A n cap xs rfl ?c1 ?c2 ?c3 ?c4 ?c5 ?c6 ?grow)
    case own => exact World.ownsRow_made w #[] 0 (Nat.le_refl _) (Nat.zero_le _) (by simp)
    case c1 => exact HH.out.2.1
    case c2 =>
      intro j u hu
      have h1 := HH.out.1 j u hu
      rw [World.cell?_alloc_lt _ _ _ (World.block_lt_of_cell? w _ h1)]
      exact h1
    case c3 => exact HH.out.2.2
    case c4 => unfold maxLen; omega
    case c5 => omega
    case c6 => simp
    case grow =>
      intro v' w' hown hgrow hnil
      have hbel : Below w.heap.size w w' := ((Below.refl _ _).alloc (Nat.le_refl _) _).grown hgrow (by simp) (fun k h => by simp [Value.ownBlock] at h; omega)
      have HO := Lib.hid (And.intro hown hbel)
      clear hown hgrow hnil hbel
      go_wp2_with fail
      go_ret
      exact ⟨_, rfl, by simpa using HO.out.1, HO.out.2⟩

/-- The first place without a node. -/
def slotOf (G : List (Option NG)) : Int := if G.findIdx Option.isNone < G.length then (G.findIdx Option.isNone : Int) else -1

set_option maxHeartbeats 400000 in
theorem isNil_any {w : World} (o : Option NG) :
    Calls Try.prog 173 #[ngPtr o] w fun e w' => e = .returned (.bool o.isNone) ∧ w = w' := by
  cases o with
  | none =>
    show Calls Try.prog 173 #[.pointer none] w _
    go_enter Try.func173, Try.ntmps173
    go_wp2_with fail
    go_ret
    exact ⟨rfl, rfl⟩
  | some g =>
    show Calls Try.prog 173 #[.pointer (some ⟨g.b, 0, none⟩)] w _
    go_enter Try.func173, Try.ntmps173
    go_wp2_with fail
    go_ret
    exact ⟨rfl, rfl⟩

theorem slotOf_found {G : List (Option NG)} {k : Nat} (hk : k < G.length) (h1 : G[k].isNone = true) (hno : ∀ o ∈ G.take k, o.isNone = false) : slotOf G = (k : Int) := by
  have : G.findIdx Option.isNone = k := by
    rw [List.findIdx_eq hk]
    refine ⟨h1, fun j hj => ?_⟩
    have h2 : j < (G.take k).length := by simp; omega
    have h3 : (G.take k)[j] ∈ G.take k := List.getElem_mem h2
    have := hno _ h3
    simpa using this
  rw [slotOf, this, if_pos hk]
theorem slotOf_none {G : List (Option NG)} (hno : ∀ o ∈ G, o.isNone = false) : slotOf G = -1 := by
  have : G.findIdx Option.isNone = G.length := by
    rw [List.findIdx_eq_length]
    exact hno
  rw [slotOf, this, if_neg (by omega)]

set_option maxHeartbeats 400000 in
theorem indexNil_any {w : World} {v : Value} {G : List (Option NG)} (h : Row w 134 1 v G.length (G.map ngPtr)) (hn : G.length ≤ 1000000) :
    Calls Try.prog 172 #[v, .func (.func 173) #[] #[]] w fun e w' => e = .returned (.int .i64 (slotOf G)) ∧ w = w' := by
  by_cases h0 : G.length = 0
  · have hz : G = [] := List.eq_nil_of_length_eq_zero h0
    subst hz
    obtain ⟨A, cap, rfl, _, _, _⟩ := h.form
    have e : slotOf [] = -1 := by simp [slotOf]
    rw [e]
    clear h e hn h0
    go_enter Try.func172, Try.ntmps172
    go_wp2_with fail
    go_loop [5, 8] (fun _ i => i = .int .i64 0) (fun _ _ => 0)
    case atStart => rfl
    case round =>
      subst hrel
      go_wp2_with fail
      go_ret
      exact ⟨rfl, rfl⟩
  · obtain ⟨g, cap, rfl, hc, hm, hg, hcell⟩ := h.open_ (by omega)
    obtain ⟨r, hr⟩ : ∃ r, r = slotOf G := ⟨_, rfl⟩
    rw [← hr]
    have HR := Lib.hid hr
    obtain ⟨n, hnl⟩ : ∃ n, G.length = n := ⟨_, rfl⟩
    rw [hnl] at hc hn hcell h0 ⊢
    have HC := Lib.hid hcell
    have HL := Lib.hid hnl
    have HI := Lib.hid (fun (W : World) (o : Option NG) => isNil_any (w := W) o)
    clear hcell h hr hnl
    go_enter Try.func172, Try.ntmps172
    go_wp2_with fail
    go_loop [5, 8] (fun _ i => ∃ k : Nat, k ≤ n ∧ i = .int .i64 k ∧ Hid (∀ o ∈ G.take k, o.isNone = false)) (fun _ i => n - (intOf i).toNat)
    case atStart => exact ⟨0, Nat.zero_le _, rfl, by simp [Hid]⟩
    case round =>
      obtain ⟨k, hk, rfl, hno⟩ := hrel
      by_cases hlt : k < n
      · have hkl : k < G.length := by have := HL.out; omega
        have hcell := HC.out k hlt
        rw [List.getElem?_map, List.getElem?_eq_getElem hkl, Option.map_some] at hcell
        have hts : G.take (k + 1) = G.take k ++ [G[k]] := List.take_succ_eq_append_getElem hkl
        have hf : G[k].isNone = true → slotOf G = (k : Int) := fun e => slotOf_found hkl e hno.out
        generalize G[k] = o at hcell hts hf
        have HT := Lib.hid (And.intro hts hf)
        clear hts hf hkl
        have HK := Lib.hid (isNil_any (w := w) o)
        obtain ⟨p, hp⟩ : ∃ p, ngPtr o = .pointer p := by cases o <;> exact ⟨_, rfl⟩
        rw [hp] at HK hcell
        cases hb : o.isNone with
        | true =>
          rw [hb] at HK HT
          clear hp
          go_wp2_with ((with_reducible refine HK.out.mono ?_); rintro e w' ⟨rfl, rfl⟩)
          go_ret
          exact ⟨ret_int (by rw [HR.out, HT.out.2 trivial]), rfl⟩
        | false =>
          have HB := Lib.hid hb
          rw [hb] at HK
          clear hp hb
          go_wp2_with ((with_reducible refine HK.out.mono ?_); rintro e w' ⟨rfl, rfl⟩)
          refine ⟨⟨k + 1, by omega, by go_num, ?_⟩, by simp [intOf]; omega⟩
          show ∀ o ∈ _, _
          rw [HT.out.1]
          intro o' ho'
          rcases List.mem_append.1 ho' with h1 | h1
          · exact hno.out o' h1
          · have : o' = o := by simpa using h1
            rw [this]; exact HB.out
      · have hkn : k = n := by omega
        subst hkn
        go_wp2_with fail
        go_ret
        refine ⟨ret_int ?_, rfl⟩
        have := hno.out
        rw [List.take_of_length_le (by have := HL.out; omega)] at this
        rw [HR.out, slotOf_none this]
end Go.Proofs.Ytnnjlpkjpbbklaa
