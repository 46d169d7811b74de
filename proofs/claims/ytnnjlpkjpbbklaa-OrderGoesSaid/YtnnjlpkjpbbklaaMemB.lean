/-
  Package dom: add, New, Element, Text and the setters, walked. Conditions: the tree lies in memory.
-/
import Derived.Test.YtnnjlpkjpbbklaaMemA
import Derived.Maps.AppendAt
import Derived.Laws.IdiomStrings
import Derived.Laws.Cover4
import Derived.Test.YtnnjlpkjpbbklaaPureDom
-- DomAdd: Rows that are only read; slices.Clone of one; slices.IndexFunc over the nodes; add of package dom. Conditions: none.
set_option linter.unusedVariables false
set_option linter.unusedSimpArgs false
namespace Go.Proofs.Ytnnjlpkjpbbklaa
open Go.RowKit

/-- A slice value that reads as n elements, the cells xs, wherever it lies. -/
def RowR (w : World) (size : Nat) (v : Value) (n : Nat) (xs : List Value) : Prop :=
  xs.length = n * size ∧ ((v = .slice none 0 0 ∧ n = 0) ∨ ∃ A cap, v = .slice (some A) n cap ∧ ∀ j u, xs[j]? = some u → w.cell? (A.add j) = some u)

theorem Row.reads {w : World} {e : TypeId} {size : Nat} {v : Value} {n : Nat} {xs : List Value} (h : Row w e size v n xs) : RowR w size v n xs := by
  refine ⟨h.1, ?_⟩
  rcases h.2 with hn | ⟨g, cap, cur, rfl, hb, hg, r⟩
  · exact .inl hn
  · exact .inr ⟨_, cap, rfl, fun j u hu => h.cells (g := g) rfl j u hu⟩
theorem RowR.keep {w w' : World} {size : Nat} {v : Value} {n : Nat} {xs : List Value} (h : RowR w size v n xs) (hb : Below w.heap.size w w') : RowR w' size v n xs := by
  refine ⟨h.1, ?_⟩
  rcases h.2 with hn | ⟨A, cap, rfl, hc⟩
  · exact .inl hn
  · refine .inr ⟨A, cap, rfl, fun j u hu => ?_⟩
    have h1 := hc j u hu
    rw [hb.cell (World.block_lt_of_cell? w _ h1)]
    exact h1
theorem RowR.nil (w : World) (size : Nat) : RowR w size (.slice none 0 0) 0 [] := ⟨by simp, .inl ⟨rfl, rfl⟩⟩

theorem own_form {w : World} {B : Nat} {e : TypeId} {size : Nat} {v : Value} {n : Nat} {xs : List Value} (h : w.ownsRow B e size v n xs) : ∃ A cap, v = .slice A n cap := by
  rcases h.2 with ⟨rfl, rfl⟩ | ⟨g, cap, cur, rfl, _⟩
  · exact ⟨none, 0, rfl⟩
  · exact ⟨_, cap, rfl⟩

set_option maxHeartbeats 400000 in
theorem cloneAttrR_any {w : World} {v : Value} {n : Nat} {xs : List Value} (h : RowR w 2 v n xs) (hn : n ≤ 1000000) (h1 : ∀ u ∈ xs, u.oneCell' = true) :
    Calls Try.prog 113 #[v] w (RetRow 55 2 n xs w) := by
  have heq := fun (W : World) (A : Option Addr) (l c : Nat) => Lib.run_eql_slice_nil (P := Try.prog) W 38 55 A l c 0 0 Try.underlying38
  obtain ⟨i0, hi, hz0, hz1, hz2⟩ := info_parts infoAttr
  rcases h.2 with ⟨rfl, h0⟩ | ⟨A, cap, rfl, hcells⟩
  · subst h0
    have hx : xs = [] := List.eq_nil_of_length_eq_zero (by simpa using h.1)
    subst hx
    clear h
    go_enter Try.func113, Try.ntmps113
    go_wp2_with fail
    go_ret
    exact ⟨_, rfl, World.ownsRow_nil _ _ _ _, Below.refl _ _⟩
  · have hl := h.1
    have HH := Lib.hid (And.intro hcells (And.intro hl h1))
    clear hcells hl h1 h
    go_enter Try.func113, Try.ntmps113
    go_wp2_with (at_builtin; refine wpList_append_own _ rfl (.tmp 5) (.tmp 6) 38 rfl w.heap.size 55 i0 (.agg #[.string ByteArray.empty, .string ByteArray.empty]) 2 32 Try.underlying38 hi hz0 hz1 hz2 rfl (by decide) (.slice (some ⟨w.heap.size, 0, none⟩) 0 0) 0 [] rfl ?own A n cap xs rfl ?c1 ?c2 ?c3 ?c4 ?c5 ?c6 ?grow)
    case own => exact World.ownsRow_made w #[] 0 (Nat.le_refl _) (Nat.zero_le _) (by simp)
    case c1 => exact HH.out.2.1
    case c2 =>
      intro j u hu
      have h1 := HH.out.1 j u hu
      rw [World.cell?_alloc_lt _ _ _ (World.block_lt_of_cell? w _ h1)]
      exact h1
    case c3 => exact HH.out.2.2
    case c4 => unfold maxLen; omega
    case c5 => omega
    case c6 => simp
    case grow =>
      intro v' w' hown hgrow hnil
      have hbel : Below w.heap.size w w' := ((Below.refl _ _).alloc (Nat.le_refl _) _).grown hgrow (by simp) (fun k h => by simp [Value.ownBlock] at h; omega)
      have HO := Lib.hid (And.intro hown hbel)
      clear hown hgrow hnil hbel
      go_wp2_with fail
      go_ret
      exact ⟨_, rfl, by simpa using HO.out.1, HO.out.2⟩

/-- The first place without a node. -/
def slotOf (G : List (Option NG)) : Int := if G.findIdx Option.isNone < G.length then (G.findIdx Option.isNone : Int) else -1

set_option maxHeartbeats 400000 in
theorem isNil_any {w : World} (o : Option NG) :
    Calls Try.prog 173 #[ngPtr o] w fun e w' => e = .returned (.bool o.isNone) ∧ w = w' := by
  cases o with
  | none =>
    show Calls Try.prog 173 #[.pointer none] w _
    go_enter Try.func173, Try.ntmps173
    go_wp2_with fail
    go_ret
    exact ⟨rfl, rfl⟩
  | some g =>
    show Calls Try.prog 173 #[.pointer (some ⟨g.b, 0, none⟩)] w _
    go_enter Try.func173, Try.ntmps173
    go_wp2_with fail
    go_ret
    exact ⟨rfl, rfl⟩

theorem slotOf_found {G : List (Option NG)} {k : Nat} (hk : k < G.length) (h1 : G[k].isNone = true) (hno : ∀ o ∈ G.take k, o.isNone = false) : slotOf G = (k : Int) := by
  have : G.findIdx Option.isNone = k := by
    rw [List.findIdx_eq hk]
    refine ⟨h1, fun j hj => ?_⟩
    have h2 : j < (G.take k).length := by simp; omega
    have h3 : (G.take k)[j] ∈ G.take k := List.getElem_mem h2
    have := hno _ h3
    simpa using this
  rw [slotOf, this, if_pos hk]
theorem slotOf_none {G : List (Option NG)} (hno : ∀ o ∈ G, o.isNone = false) : slotOf G = -1 := by
  have : G.findIdx Option.isNone = G.length := by
    rw [List.findIdx_eq_length]
    exact hno
  rw [slotOf, this, if_neg (by omega)]

set_option maxHeartbeats 400000 in
theorem indexNil_any {w : World} {v : Value} {G : List (Option NG)} (h : Row w 134 1 v G.length (G.map ngPtr)) (hn : G.length ≤ 1000000) :
    Calls Try.prog 172 #[v, .func (.func 173) #[] #[]] w fun e w' => e = .returned (.int .i64 (slotOf G)) ∧ w = w' := by
  by_cases h0 : G.length = 0
  · have hz : G = [] := List.eq_nil_of_length_eq_zero h0
    subst hz
    obtain ⟨A, cap, rfl, _, _, _⟩ := h.form
    have e : slotOf [] = -1 := by simp [slotOf]
    rw [e]
    clear h e hn h0
    go_enter Try.func172, Try.ntmps172
    go_wp2_with fail
    go_loop [5, 8] (fun _ i => i = .int .i64 0) (fun _ _ => 0)
    case atStart => rfl
    case round =>
      subst hrel
      go_wp2_with fail
      go_ret
      exact ⟨rfl, rfl⟩
  · obtain ⟨g, cap, rfl, hc, hm, hg, hcell⟩ := h.open_ (by omega)
    obtain ⟨r, hr⟩ : ∃ r, r = slotOf G := ⟨_, rfl⟩
    rw [← hr]
    have HR := Lib.hid hr
    obtain ⟨n, hnl⟩ : ∃ n, G.length = n := ⟨_, rfl⟩
    rw [hnl] at hc hn hcell h0 ⊢
    have HC := Lib.hid hcell
    have HL := Lib.hid hnl
    have HI := Lib.hid (fun (W : World) (o : Option NG) => isNil_any (w := W) o)
    clear hcell h hr hnl
    go_enter Try.func172, Try.ntmps172
    go_wp2_with fail
    go_loop [5, 8] (fun _ i => ∃ k : Nat, k ≤ n ∧ i = .int .i64 k ∧ Hid (∀ o ∈ G.take k, o.isNone = false)) (fun _ i => n - (intOf i).toNat)
    case atStart => exact ⟨0, Nat.zero_le _, rfl, by simp [Hid]⟩
    case round =>
      obtain ⟨k, hk, rfl, hno⟩ := hrel
      by_cases hlt : k < n
      · have hkl : k < G.length := by have := HL.out; omega
        have hcell := HC.out k hlt
        rw [List.getElem?_map, List.getElem?_eq_getElem hkl, Option.map_some] at hcell
        have hts : G.take (k + 1) = G.take k ++ [G[k]] := List.take_succ_eq_append_getElem hkl
        have hf : G[k].isNone = true → slotOf G = (k : Int) := fun e => slotOf_found hkl e hno.out
        generalize G[k] = o at hcell hts hf
        have HT := Lib.hid (And.intro hts hf)
        clear hts hf hkl
        have HK := Lib.hid (isNil_any (w := w) o)
        obtain ⟨p, hp⟩ : ∃ p, ngPtr o = .pointer p := by cases o <;> exact ⟨_, rfl⟩
        rw [hp] at HK hcell
        cases hb : o.isNone with
        | true =>
          rw [hb] at HK HT
          clear hp
          go_wp2_with ((with_reducible refine HK.out.mono ?_); rintro e w' ⟨rfl, rfl⟩)
          go_ret
          exact ⟨ret_int (by rw [HR.out, HT.out.2 trivial]), rfl⟩
        | false =>
          have HB := Lib.hid hb
          rw [hb] at HK
          clear hp hb
          go_wp2_with ((with_reducible refine HK.out.mono ?_); rintro e w' ⟨rfl, rfl⟩)
          refine ⟨⟨k + 1, by omega, by go_num, ?_⟩, by simp [intOf]; omega⟩
          show ∀ o ∈ _, _
          rw [HT.out.1]
          intro o' ho'
          rcases List.mem_append.1 ho' with h1 | h1
          · exact hno.out o' h1
          · have : o' = o := by simpa using h1
            rw [this]; exact HB.out
      · have hkn : k = n := by omega
        subst hkn
        go_wp2_with fail
        go_ret
        refine ⟨ret_int ?_, rfl⟩
        have := hno.out
        rw [List.take_of_length_le (by have := HL.out; omega)] at this
        rw [HR.out, slotOf_none this]
end Go.Proofs.Ytnnjlpkjpbbklaa

-- DomAdd2: add of package dom. Conditions: none.
namespace Go.Proofs.Ytnnjlpkjpbbklaa
open Go.RowKit

/-- What a call that changes a tree leaves: the tree T, in blocks of S and new ones; no other block has turned. -/
def Mut (tb : Nat) (T : DT) (S : Nat → Prop) (w w' : World) : Prop := Tree w' tb T (fun b => S b ∨ w.heap.size ≤ b) ∧ Only S w w'

section
variable {w : World} {tb : Nat} {T : DT} {nv : Value} {G : List (Option NG)}

theorem Row.frozen_own {w : World} {e : TypeId} {size : Nat} {v : Value} {n : Nat} {xs : List Value} (h : Row w e size v n xs) {g : Nat} {m cap : Nat} (hv : v = .slice (some ⟨g, 0, none⟩) m cap) (o : Nat) : w.frozen? ⟨g, o, none⟩ = false := by
  rcases h.2 with ⟨rfl, _⟩ | ⟨g', cap', cur, rfl, _, hg, _⟩
  · cases hv
  · cases hv
    exact At.frozen (cs := cur) hg o
theorem infoNodeP : (Try.prog.info? 134).map (fun i => (i.zero, i.size, i.bytes)) = some (some (.pointer none), 1, 8) := by kernel_rfl

theorem own_mono {w : World} {base : Nat} {e : TypeId} {size : Nat} {v : Value} {n : Nat} {xs : List Value} (h : w.ownsRow base e size v n xs) : Row w e size v n xs := by
  refine ⟨h.1, ?_⟩
  rcases h.2 with hn | ⟨g, cap, cur, rfl, hb, hg, r⟩
  · exact .inl hn
  · exact .inr ⟨g, cap, cur, rfl, Nat.zero_le _, hg, r⟩
theorem own_base {w : World} {base base' : Nat} {e : TypeId} {size : Nat} {v : Value} {n : Nat} {xs : List Value} (h : w.ownsRow base e size v n xs) (hb : base' ≤ base) : w.ownsRow base' e size v n xs := by
  refine ⟨h.1, ?_⟩
  rcases h.2 with hn | ⟨g, cap, cur, rfl, hb, hg, r⟩
  · exact .inl hn
  · exact .inr ⟨g, cap, cur, rfl, by omega, hg, r⟩
theorem own_ge {w : World} {base : Nat} {e : TypeId} {size : Nat} {v : Value} {n : Nat} {xs : List Value} (h : w.ownsRow base e size v n xs) : ∀ b, v.ownBlock = some b → base ≤ b ∧ b < w.heap.size := by
  intro b hb
  rcases h.2 with ⟨rfl, _⟩ | ⟨g, cap, cur, rfl, hb', hg, r⟩
  · cases hb
  · simp [Value.ownBlock] at hb
    subst hb
    exact ⟨hb', (Array.getElem?_eq_some_iff.1 hg).1⟩

/-- One cell of a row of cells is written. -/
theorem Row.setAt {w w' : World} {e : TypeId} {v : Value} {n : Nat} {xs : List Value} (h : Row w e 1 v n xs) {g cap k : Nat} {u : Value} (hv : v = .slice (some ⟨g, 0, none⟩) n cap) (hk : k < n)
    (hw : w'.heap[g]? = (w.setCell ⟨g, k, none⟩ u).heap[g]?) : Row w' e 1 v n (xs.set k u) := by
  rcases h.2 with ⟨rfl, rfl⟩ | ⟨g', cap', cur, rfl, hb, hg, hc, hm, hs, ht⟩
  · cases hv
  · cases hv
    refine ⟨by rw [List.length_set]; exact h.1, .inr ⟨g, cap, cur.setIfInBounds k u, rfl, hb, ?_, hc, hm, by simp [hs], ?_⟩⟩
    · rw [hw]; exact At.set (cs := cur) hg k u
    · rw [← ht]; simp [List.take_set]

theorem slot_at {T : DT} {k : Nat} (h : Rep w tb T nv G) (hk : slotOf G = (k : Int)) : k < G.length ∧ T.at_ k = none := by
  have h0 : k < G.length ∧ G.findIdx Option.isNone = k := by
    unfold slotOf at hk
    split at hk <;> omega
  refine ⟨h0.1, ?_⟩
  cases hn : T.at_ k with
  | none => rfl
  | some m =>
    obtain ⟨g, hg, _⟩ := h.node k m hn
    have h1 := List.findIdx_getElem (xs := G) (p := Option.isNone) (w := by omega)
    have h2 : G[G.findIdx Option.isNone]'(by omega) = some g := by
      have := List.getElem?_eq_some_iff.1 hg
      obtain ⟨_, h3⟩ := this
      simp only [h0.2]; exact h3
    rw [h2] at h1
    cases h1

theorem add_mem (h : Rep w tb T nv G) {g cap k : Nat} (hv : nv = .slice (some ⟨g, 0, none⟩) G.length cap) (hk : k < G.length) (hno : T.at_ k = none)
    {w2 : World} (hb : Below w.heap.size w w2) {tag : Int} {av : Value} {text : Bytes} {al : List (Bytes × Bytes)} (ho : Row w2 55 2 av al.length (attrCells al)) (hav : ∀ b, av.ownBlock = some b → b ∉ repBlocks tb nv G) {cn : Int} (hcn : cn = (T.count : Int) + 1)
    {wF : World} (hF : (((w2.alloc (.cells #[I tag, av, .string text, .slice none 0 0, I (-1)] 139)).setCell ⟨g, k, none⟩ (.pointer (some ⟨w2.heap.size, 0, none⟩))).drew.setCell ⟨tb, 2, none⟩ (I cn)) = wF) :
    ∃ G', Rep wF tb (T.put k (some ⟨tag, al, text, [], none⟩)) nv G' ∧ (∀ b ∈ repBlocks tb nv G', b ∈ repBlocks tb nv G ∨ b = w2.heap.size ∨ av.ownBlock = some b) ∧ Only (fun b => b ∈ repBlocks tb nv G) w2 wF := by
  have hgo : nv.ownBlock = some g := by rw [hv]; rfl
  have hgne : g ≠ tb := h.row_ne hgo
  have htl := h.tree.lt
  have hgl : g < w.heap.size := (h.row.lt g hgo).2
  have hz := hb.size
  have hlen := h.len
  generalize hN : Obj.cells #[I tag, av, .string text, .slice none 0 0, I (-1)] 139 = N at hF
  have hblk : ∀ b, b < w2.heap.size → b ≠ tb → b ≠ g → wF.heap[b]? = w2.heap[b]? := by
    intro b hb1 h1 h2
    rw [← hF, Below.heap_setCell _ _ _ _ h1]
    show ((w2.alloc N).setCell _ _).heap[b]? = _
    rw [Below.heap_setCell _ _ _ _ h2, Below.heap_alloc _ _ _ hb1]
  have hsize : wF.heap.size = w2.heap.size + 1 := by
    rw [← hF, World.size_setCell, World.size_drew, World.size_setCell, World.size_alloc]
  have hcount := T.count_put k (some ⟨tag, al, text, [], none⟩) (by omega)
  rw [hno] at hcount
  simp at hcount
  have htm : tb ∈ repBlocks tb nv G := by simp [repBlocks]
  have hgm : g ∈ repBlocks tb nv G := by simp [repBlocks, hgo]
  have hT : At wF tb 143 #[I T.cap, I T.dep, I ((T.put k (some ⟨tag, al, text, [], none⟩)).count : Int), nv] := by
    rw [← hF]
    refine At.set' ((((h.tree.keep hb).alloc N).far (p := ⟨g, k, none⟩) (fun e => hgne e.symm) _).drew) ?_
    rw [hcount, hcn]; rfl
  have hown2 : ∀ b, av.ownBlock = some b → b < w2.heap.size := fun b hb1 => (ho.lt b hb1).2
  have hNode : NodeRep wF ⟨w2.heap.size, av, .slice none 0 0⟩ ⟨tag, al, text, [], none⟩ := by
    refine ⟨?_, ho.same fun b hb1 => ?_, World.ownsRow_nil _ _ _ _⟩
    · rw [← hF]
      have h0 : At (w2.alloc N) w2.heap.size 139 #[I tag, av, .string text, .slice none 0 0, I (-1)] := by rw [← hN]; exact At.fresh _ _ _ rfl
      exact ((h0.far (p := ⟨g, k, none⟩) (by show _ ≠ g; omega) _).drew).far (p := ⟨tb, 2, none⟩) (by show _ ≠ tb; omega) _
    · exact hblk b (hown2 b hb1) (fun e => hav b hb1 (by rw [e]; exact htm)) (fun e => hav b hb1 (by rw [e]; exact hgm))
  refine ⟨G.set k (some ⟨w2.heap.size, av, .slice none 0 0⟩), ?_, ?_, ?_⟩
  · refine h.setPlace (by omega) hT ?_ ?_ (by intro e; cases e) ?_ ?_ ?_
    · rw [List.map_set]
      refine Row.setAt (w := w2) (h.row.keep hb) hv hk ?_
      rw [← hF, Below.heap_setCell _ _ _ _ hgne]
      show ((w2.alloc N).setCell _ _).heap[g]? = _
      simp only [World.setCell, Array.getElem?_modify]
      rw [Below.heap_alloc _ _ _ (by omega)]
      rfl
    · intro n hn
      cases hn
      exact ⟨_, rfl, hNode⟩
    · intro b hb1 h1 h2
      have := h.lt b hb1
      rw [hblk b (by omega) h1 (fun e => h2 (by rw [hgo, e]))]
      exact hb.block b this
    · show (NG.blocks _).Nodup
      simp only [NG.blocks, List.nodup_cons, List.mem_append, Option.mem_toList]
      refine ⟨?_, ?_⟩
      · rintro (h1 | h1)
        · have := hown2 _ h1; omega
        · cases h1
      · cases av.ownBlock <;> simp [Value.ownBlock]
    · intro b hb1
      simp only [ngBlocks, NG.blocks, List.mem_cons, List.mem_append, Option.mem_toList] at hb1
      rcases hb1 with rfl | h1 | h1
      · intro hm; have := h.lt _ hm; omega
      · exact hav b h1
      · cases h1
  · refine Rep.set_blocks (fun b hb1 => .inl hb1) fun b hb1 => ?_
    simp only [ngBlocks, NG.blocks, List.mem_cons, List.mem_append, Option.mem_toList] at hb1
    rcases hb1 with rfl | h1 | h1
    · exact .inr (.inl rfl)
    · exact .inr (.inr h1)
    · cases h1
  · refine ⟨?_, ?_, ?_, by omega, fun b hb1 hn => ?_⟩
    · rw [← hF]; rfl
    · rw [← hF]; rfl
    · rw [← hF]; rfl
    · exact hblk b hb1 (fun e => hn (by rw [e]; exact htm)) (fun e => hn (by rw [e]; exact hgm))

set_option maxHeartbeats 1000000 in
theorem add_found (h : Rep w tb T nv G) {S : Nat → Prop} (hS : ∀ b ∈ repBlocks tb nv G, S b) (hl : T.nodes.length ≤ 2000) {tag : Int} {av : Value} {text : Bytes} {n : Nat} {al : List (Bytes × Bytes)}
    (ha : RowR w 2 av n (attrCells al)) (hn : n ≤ 1000000) {k : Nat} (hk : slotOf G = (k : Int)) :
    Calls Try.prog 126 #[.pointer (some ⟨tb, 0, none⟩), .agg #[I tag, av, .string text]] w fun e w' => e = .returned (I k) ∧ Mut tb (T.put k (some ⟨tag, al, text, [], none⟩)) S w w' := by
  have hc := h.tree.cell
  have hf := h.tree.frozen
  have htl := h.tree.lt
  have hlen := h.len
  have hcnt : T.count ≤ 2000 := Nat.le_trans List.countP_le_length hl
  have hno := Lib.hid (slot_at h hk).2
  have hnl : n = al.length := by have := ha.1; rw [attrCells_length] at this; omega
  have HNL := Lib.hid hnl
  clear hnl
  have HC := Lib.hid (fun (W : World) (hW : Below w.heap.size w W) => cloneAttrR_any (ha.keep hW) hn (attrCells_one al))
  have HX := Lib.hid (fun (W : World) (hW : Below w.heap.size w W) => indexNil_any (h.keep hW).row (by omega))
  have hkl : k < G.length := by
    unfold slotOf at hk
    split at hk <;> omega
  obtain ⟨g, cap, hv, hcap, hmax, hg, hcell⟩ := h.row.open_ (by omega)
  have hkc := hcell k hkl
  have hgne : g ≠ tb := h.row_ne (by rw [hv]; rfl)
  rw [hk] at HX
  rw [hv] at hc HX
  have HH := Lib.hid (And.intro h (And.intro hS hv))
  clear h hS hv ha hcell
  rw [List.getElem?_map, List.getElem?_eq_getElem hkl, Option.map_some] at hkc
  generalize ngPtr G[k] = pk at hkc
  have HL := Lib.hid (And.intro hlen hkl)
  generalize hcnE : T.count = cn at *
  generalize hGl : G.length = m at *
  have HGl := Lib.hid hGl
  have HcnE := Lib.hid hcnE
  clear hcnE
  clear hGl hlen hl
  go_enter Try.func126, Try.ntmps126
  go_wp2_with (first | ((with_reducible refine (HC.out _ (by repeat (first | exact Below.refl _ _ | assumption | (refine Below.setCell ?_ (by first | (simp; done) | (simp; omega) | omega) _) | (refine Below.alloc ?_ (by first | (simp; done) | (simp; omega) | omega) _) | (refine Below.drew ?_) | (refine Below.drewN' ?_ _)))).mono ?_); rintro e w1 ⟨v_w1, rfl, hown, hb⟩; obtain ⟨A_w1, c_w1, rfl⟩ := own_form hown; have HO_w1 := Lib.hid hown; clear hown; have HBb_w1 := Lib.hid hb; have hz_w1 := hb.size; (try simp only [World.size_alloc, World.size_setCell, World.size_drew, size_drewN'] at hz_w1); have k0_w1 : At w1 (w.heap.size) 137 #[I tag, av, .string text] := At.keep (by (repeat' (first | (with_reducible assumption) | (with_reducible refine unhid ?_; with_reducible assumption) | (with_reducible refine At.fresh _ _ _ (by first | (simp; done) | (simp; omega) | omega)) | (with_reducible apply At.set') | (with_reducible apply At.far) | (with_reducible apply At.alloc) | (with_reducible apply At.drew) | (with_reducible apply At.drewN) | exact (rfl : Array.setIfInBounds _ _ _ = _) | (refine Ne.symm ?_; simp; done) | (show _ ≠ _; simp; done) | (show _ ≠ _; simp; omega) | (show _ ≠ _; omega))); (first | done | fail)) hb; have k0_w1c := At.cell k0_w1; have k0_w1f := At.frozen k0_w1; have k0_w1h := Lib.hid k0_w1; clear k0_w1; have hb_w1 : Below w.heap.size w w1 := Below.trans (by exact (by repeat (first | exact Below.refl _ _ | assumption | (refine Below.setCell ?_ (by first | (simp; done) | (simp; omega) | omega) _) | (refine Below.alloc ?_ (by first | (simp; done) | (simp; omega) | omega) _) | (refine Below.drew ?_) | (refine Below.drewN' ?_ _)))) (hb.mono (by first | (simp; done) | (simp; omega) | omega)); obtain ⟨hc_w1, hf_w1⟩ := bcell hb_w1; clear hb) | ((with_reducible refine (HX.out _ (by repeat (first | exact Below.refl _ _ | assumption | (refine Below.setCell ?_ (by first | (simp; done) | (simp; omega) | omega) _) | (refine Below.alloc ?_ (by first | (simp; done) | (simp; omega) | omega) _) | (refine Below.drew ?_) | (refine Below.drewN' ?_ _)))).mono ?_); rintro e w' ⟨rfl, rfl⟩))
  have hgf := fun o => HH.out.1.row.frozen_own HH.out.2.2 o
  have hdf : decide ((k : Int) < 0) = false := by simp
  generalize hW2 : w1.setCell ⟨w.heap.size, 1, none⟩ (.slice A_w1 n c_w1) = w2
  have kp : At w2 w.heap.size 137 #[I tag, .slice A_w1 n c_w1, .string text] := by rw [← hW2]; exact k0_w1h.out.set' rfl
  have kpc := kp.cell
  have hb2 : Below w.heap.size w w2 := by rw [← hW2]; exact Below.setCell hb_w1 (by simp) _
  obtain ⟨hc2, hf2⟩ := bcell hb2
  have hz2 := hb2.size
  have HW2 := Lib.hid (And.intro hW2 (And.intro hb2 kp))
  clear hW2 hb2 kp
  clear k0_w1c k0_w1f hc_w1 hf_w1 hb_w1
  go_region
  go_wp2_with fail
  go_ret
  refine ⟨rfl, ?_⟩
  have hz0 := HW2.out.2.1.size
  have hown : w2.ownsRow w.heap.size 55 2 (.slice A_w1 n c_w1) n (attrCells al) := by
    rw [← HW2.out.1]
    exact own_base (ownsRow_setCell_below HO_w1.out (by simp) _) (by simp)
  have hge := own_ge hown
  obtain ⟨G', hR, hB, hO⟩ := add_mem HH.out.1 (by rw [HH.out.2.2, HGl.out]) (by rw [HGl.out]; exact hkl) hno.out HW2.out.2.1 (av := .slice A_w1 n c_w1) (text := text) (tag := tag) (al := al) (by rw [← HNL.out]; exact own_mono hown) (fun b hb1 hm => by have := hge b hb1; have := HH.out.1.lt b hm; omega) (cn := (cn : Int) + 1) (by rw [HcnE.out]) rfl
  refine ⟨⟨_, G', hR, fun b hb1 => ?_⟩, ?_⟩
  · rcases hB b hb1 with h1 | h1 | h1
    · exact .inl (HH.out.2.1 b h1)
    · right; omega
    · exact .inr (hge b h1).1
  · exact (Only.of_below HW2.out.2.1).trans hO fun i _ hi => HH.out.2.1 i hi
end
end Go.Proofs.Ytnnjlpkjpbbklaa

-- DomAdd3: add of package dom, where all places hold a node; both. Conditions: none.
namespace Go.Proofs.Ytnnjlpkjpbbklaa
open Go.RowKit

theorem At.grown {w w' : World} {b : Nat} {t : TypeId} {cs : Array Value} {row : Option Nat} (h : At w b t cs) (hg : w.grownBy w' row) (hne : row ≠ some b) : At w' b t cs :=
  (hg.block b h.lt (fun e => hne e.symm)).trans h

section
variable {w : World} {tb : Nat} {T : DT} {nv : Value} {G : List (Option NG)}

set_option maxHeartbeats 1000000 in
theorem add_full (h : Rep w tb T nv G) {S : Nat → Prop} (hS : ∀ b ∈ repBlocks tb nv G, S b) (hl : T.nodes.length ≤ 2000) {tag : Int} {av : Value} {text : Bytes} {n : Nat} {al : List (Bytes × Bytes)}
    (ha : RowR w 2 av n (attrCells al)) (hn : n ≤ 1000000) (hk : slotOf G = -1) :
    Calls Try.prog 126 #[.pointer (some ⟨tb, 0, none⟩), .agg #[I tag, av, .string text]] w fun e w' => e = .returned (I (T.nodes.length : Nat)) ∧ Mut tb { T with nodes := T.nodes ++ [some ⟨tag, al, text, [], none⟩] } S w w' := by
  have hc := h.tree.cell
  have hf := h.tree.frozen
  have htl := h.tree.lt
  have hlen := h.len
  have hcnt : T.count ≤ 2000 := Nat.le_trans List.countP_le_length hl
  have hnl : n = al.length := by have := ha.1; rw [attrCells_length] at this; omega
  have HNL := Lib.hid hnl
  clear hnl
  have HC := Lib.hid (fun (W : World) (hW : Below w.heap.size w W) => cloneAttrR_any (ha.keep hW) hn (attrCells_one al))
  have HX := Lib.hid (fun (W : World) (hW : Below w.heap.size w W) => indexNil_any (h.keep hW).row (by omega))
  obtain ⟨A, cap, hv, hcap, hmax, hA⟩ := h.row.form
  obtain ⟨i0, hi, hi0, hi1, hi2⟩ := info_parts infoNodeP
  rw [hk] at HX
  rw [hv] at hc HX
  have HH := Lib.hid (And.intro h (And.intro hS hv))
  clear h hS hv ha hA
  have HL := Lib.hid hlen
  generalize hcnE : T.count = cn at *
  have HcnE := Lib.hid hcnE
  clear hcnE
  rw [← hlen] at hl ⊢
  generalize hGl : G.length = m at *
  have HGl := Lib.hid hGl
  clear hGl hlen
  go_enter Try.func126, Try.ntmps126
  go_upto_region 5 with (first | ((with_reducible refine (HC.out _ (by repeat (first | exact Below.refl _ _ | assumption | (refine Below.setCell ?_ (by first | (simp; done) | (simp; omega) | omega) _) | (refine Below.alloc ?_ (by first | (simp; done) | (simp; omega) | omega) _) | (refine Below.drew ?_) | (refine Below.drewN' ?_ _)))).mono ?_); rintro e w1 ⟨v_w1, rfl, hown, hb⟩; obtain ⟨A_w1, c_w1, rfl⟩ := own_form hown; have HO_w1 := Lib.hid hown; clear hown; have HBb_w1 := Lib.hid hb; have hz_w1 := hb.size; (try simp only [World.size_alloc, World.size_setCell, World.size_drew, size_drewN'] at hz_w1); have k0_w1 : At w1 (w.heap.size) 137 #[I tag, av, .string text] := At.keep (by (repeat' (first | (with_reducible assumption) | (with_reducible refine unhid ?_; with_reducible assumption) | (with_reducible refine At.fresh _ _ _ (by first | (simp; done) | (simp; omega) | omega)) | (with_reducible apply At.set') | (with_reducible apply At.far) | (with_reducible apply At.alloc) | (with_reducible apply At.drew) | (with_reducible apply At.drewN) | exact (rfl : Array.setIfInBounds _ _ _ = _) | (refine Ne.symm ?_; simp; done) | (show _ ≠ _; simp; done) | (show _ ≠ _; simp; omega) | (show _ ≠ _; omega))); (first | done | fail)) hb; have k0_w1c := At.cell k0_w1; have k0_w1f := At.frozen k0_w1; have k0_w1h := Lib.hid k0_w1; clear k0_w1; have hb_w1 : Below w.heap.size w w1 := Below.trans (by exact (by repeat (first | exact Below.refl _ _ | assumption | (refine Below.setCell ?_ (by first | (simp; done) | (simp; omega) | omega) _) | (refine Below.alloc ?_ (by first | (simp; done) | (simp; omega) | omega) _) | (refine Below.drew ?_) | (refine Below.drewN' ?_ _)))) (hb.mono (by first | (simp; done) | (simp; omega) | omega)); obtain ⟨hc_w1, hf_w1⟩ := bcell hb_w1; clear hb) | ((with_reducible refine (HX.out _ (by repeat (first | exact Below.refl _ _ | assumption | (refine Below.setCell ?_ (by first | (simp; done) | (simp; omega) | omega) _) | (refine Below.alloc ?_ (by first | (simp; done) | (simp; omega) | omega) _) | (refine Below.drew ?_) | (refine Below.drewN' ?_ _)))).mono ?_); rintro e w' ⟨rfl, rfl⟩))
  generalize hW2 : w1.setCell ⟨w.heap.size, 1, none⟩ (.slice A_w1 n c_w1) = w2
  have kp : At w2 w.heap.size 137 #[I tag, .slice A_w1 n c_w1, .string text] := by rw [← hW2]; exact k0_w1h.out.set' rfl
  have hb2 : Below w.heap.size w w2 := by rw [← hW2]; exact Below.setCell hb_w1 (by simp) _
  have hown2 : w2.ownsRow w.heap.size 55 2 (.slice A_w1 n c_w1) n (attrCells al) := by
    rw [← hW2]
    exact own_base (ownsRow_setCell_below HO_w1.out (by simp) _) (by simp)
  have kt := HH.out.1.tree.keep hb2
  rw [HH.out.2.2, HcnE.out] at kt
  have krow := HH.out.1.row.keep hb2
  rw [HH.out.2.2, HGl.out] at krow
  have HW2 := Lib.hid (And.intro hb2 (And.intro kp (And.intro kt (And.intro krow hown2))))
  have hz2 := hb2.size
  have ktc := kt.cell
  have ktf := kt.frozen
  clear hW2 hb2 kp kt krow hown2 k0_w1c k0_w1f k0_w1h hc_w1 hf_w1 hb_w1 HO_w1 hc hf
  go_wp2_with (at_builtin; refine wpList_append_own_at _ rfl (.tmp 26) (.tmp 27) 141 rfl 0 134 i0 (.pointer none) 1 8 Try.underlying141 hi hi0 hi1 hi2 rfl (by decide) (.slice A m cap) m (G.map ngPtr) rfl ?own ⟨w2.heap.size, 0, none⟩ 1 1 [.pointer none] rfl ?c1 ?c2 ?c3 ?c4 ?c5 ?c6 ?grow)
  case own => exact HW2.out.2.2.2.1.keep ((Below.refl _ _).alloc (Nat.le_refl _) _)
  case c1 => rfl
  case c2 => exact cell_one_new _ _ _
  case c3 => intro u hu; simp at hu; rw [hu]; rfl
  case c4 => unfold maxLen; omega
  case c5 => omega
  case c6 => exact Nat.zero_le _
  case grow =>
    intro v' w4 hown4 hgrow hnil hwhere
    obtain ⟨g', cap', rfl, hcap', hmax', hg', hcell'⟩ := Row.open_ (n := m + 1) hown4 (by omega)
    obtain ⟨hb2, kp, kt, krow, hown2⟩ := HW2.out
    have hnvo : nv.ownBlock = (Value.slice A m cap).ownBlock := by rw [HH.out.2.2]
    have hrowlt : ∀ b, (Value.slice A m cap).ownBlock = some b → b < w.heap.size ∧ b ≠ tb := fun b hb1 => ⟨(HH.out.1.row.lt b (by rw [hnvo, hb1])).2, HH.out.1.row_ne (by rw [hnvo, hb1])⟩
    have kt4 := (kt.alloc (.cells #[.pointer none] 134)).grown hgrow (fun e => (hrowlt _ e).2 rfl)
    have kp4 := (kp.alloc (.cells #[.pointer none] 134)).grown hgrow (fun e => by have := (hrowlt _ e).1; omega)
    have hz4 := hgrow.size
    rw [World.size_alloc] at hz4
    have hge2 := own_ge hown2
    have hblk4 : ∀ b, b < w2.heap.size → (Value.slice A m cap).ownBlock ≠ some b → w4.heap[b]? = w2.heap[b]? := fun b hb1 hne => (hgrow.block b (by rw [World.size_alloc]; omega) (fun e => hne e.symm)).trans (Below.heap_alloc _ _ _ hb1)
    have hrow4 : Row w4 55 2 (.slice A_w1 n c_w1) n (attrCells al) := (own_mono hown2).same fun b hb1 => by
      have := hge2 b hb1
      exact hblk4 b this.2 (fun e => by have := (hrowlt _ e).1; omega)
    have hg'w : g' < w.heap.size ∧ (Value.slice A m cap).ownBlock = some g' ∨ w2.heap.size < g' := by
      rcases hwhere with e | e
      · left
        have e' : (Value.slice A m cap).ownBlock = some g' := by rw [← e]; rfl
        exact ⟨(hrowlt g' e').1, e'⟩
      · right
        have e' : g' = w2.heap.size + 1 := by
          simp only [Value.ownBlock, World.size_alloc] at e
          exact Option.some.inj e
        omega
    have hg't : g' ≠ tb := by
      rcases hg'w with h1 | h1
      · exact (hrowlt g' h1.2).2
      · omega
    generalize hW5 : w4.setCell ⟨tb, 3, none⟩ (.slice (some ⟨g', 0, none⟩) (m + 1) cap') = w5
    have kt5 : At w5 tb 143 #[I T.cap, I T.dep, I (cn : Int), .slice (some ⟨g', 0, none⟩) (m + 1) cap'] := by rw [← hW5]; exact kt4.set' rfl
    have hblk5 : ∀ b, b ≠ tb → w5.heap[b]? = w4.heap[b]? := fun b hb1 => by rw [← hW5]; exact Below.heap_setCell _ _ _ _ hb1
    have hz5 : w5.heap.size = w4.heap.size := by rw [← hW5]; exact World.size_setCell _ _ _
    have kp5 : At w5 w.heap.size 137 #[I tag, .slice A_w1 n c_w1, .string text] := (hblk5 _ (by omega)).trans kp4
    have hrow5 : Row w5 134 1 (.slice (some ⟨g', 0, none⟩) (m + 1) cap') (m + 1) (G.map ngPtr ++ [.pointer none]) := Row.same hown4 fun b hb1 => by
      simp [Value.ownBlock] at hb1
      exact hblk5 b (by rw [← hb1]; exact hg't)
    have hrowA5 : Row w5 55 2 (.slice A_w1 n c_w1) n (attrCells al) := hrow4.same fun b hb1 => hblk5 b (by have := hge2 b hb1; omega)
    have hR5 : Rep w5 tb { T with nodes := T.nodes ++ [none] } (.slice (some ⟨g', 0, none⟩) (m + 1) cap') (G ++ [none]) := by
      refine HH.out.1.grow ?_ ?_ ?_ ?_
      · rw [HcnE.out]; exact kt5
      · rw [HGl.out]; exact hrow5
      · intro b hb1 h1 h2
        have := HH.out.1.lt b hb1
        rw [hblk5 b h1, hblk4 b (by omega) (by rw [← hnvo]; exact h2)]
        exact hb2.block b this
      · intro b hb1
        simp [Value.ownBlock] at hb1
        subst hb1
        rcases hg'w with h1 | h1
        · left; rw [hnvo]; exact h1.2
        · right; omega
    have hcell5 : w5.cell? ⟨g', m, none⟩ = some (.pointer none) := by
      obtain ⟨g2, cap2, hv2, _, _, _, hc2⟩ := hrow5.open_ (by omega)
      cases hv2
      rw [hc2 m (by omega)]
      simp [List.getElem?_append, HGl.out]
    have hfro5 := hrow5.frozen_own rfl
    have kpc := kp5.cell
    have ktc5 := kt5.cell
    have ktf5 := kt5.frozen
    have kt4c := kt4.cell
    have kt4f := kt4.frozen
    have HW5 := Lib.hid (And.intro hR5 (And.intro hrowA5 (And.intro hge2 (And.intro hb2 (And.intro hblk4 (And.intro hblk5 hgrow))))))
    have HG' := Lib.hid hg'w
    have hgl5 : g' < w5.heap.size := by omega
    have hz2 := hb2.size
    have Hrl := Lib.hid (And.intro hrowlt hnvo)
    clear kp kt krow hown2 kt4 kp4 hrow4 hrow5 hrowA5 hR5 hge2 hb2 hblk4 hblk5 hgrow hown4 hcell' hnil hwhere hg'w HW2 kp5 kt5 ktc ktf hrowlt hnvo
    have HS := Lib.hid hW5
    go_upto_region 6 with fail
    clear hW5
    go_region
    go_wp2_with fail
    go_ret
    refine ⟨rfl, ?_⟩
    obtain ⟨hR5, hrowA5, hge2, hb2, hblk4, hblk5, hgrow⟩ := HW5.out
    obtain ⟨hrowlt, hnvo⟩ := Hrl.out
    have hput : ({ T with nodes := T.nodes ++ [none] } : DT).put m (some ⟨tag, al, text, [], none⟩) = { T with nodes := T.nodes ++ [some ⟨tag, al, text, [], none⟩] } := by
      have : m = T.nodes.length := HL.out
      simp [DT.put, this]
    have hbl : ∀ b ∈ repBlocks tb (.slice (some ⟨g', 0, none⟩) (m + 1) cap') (G ++ [none]), b ∈ repBlocks tb nv G ∨ w2.heap.size < b := by
      intro b hb1
      simp only [repBlocks, List.mem_cons, List.mem_append, Option.mem_toList, List.flatMap_append, List.flatMap_cons, List.flatMap_nil, ngBlocks, List.append_nil] at hb1
      rcases hb1 with rfl | h1 | h1
      · left; simp [repBlocks]
      · simp [Value.ownBlock] at h1
        subst h1
        rcases HG'.out with h2 | h2
        · left; simp [repBlocks, hnvo, h2.2]
        · exact .inr h2
      · left; simp only [repBlocks, List.mem_cons, List.mem_append]; exact .inr (.inr h1)
    have eF : (((w5.alloc (.cells #[I tag, .slice A_w1 n c_w1, .string text, .slice none 0 0, I (-1)] 139)).setCell ⟨g', m, none⟩ (.pointer (some ⟨w5.heap.size, 0, none⟩))).drew.setCell ⟨tb, 2, none⟩ (I ((cn : Int) + 1))) = (((w5.setCell ⟨g', m, none⟩ (.pointer (some ⟨w4.heap.size, 0, none⟩))).alloc (.cells #[I tag, .slice A_w1 n c_w1, .string text, .slice none 0 0, I (-1)] 139)).setCell ⟨tb, 2, none⟩ (I ((cn : Int) + 1))).drew := by
      rw [World.setCell_alloc_past (hn := hgl5), World.setCell_drew, hz5]
    obtain ⟨G', hR, hB, hO⟩ := add_mem hR5 (g := g') (cap := cap') (k := m) (by simp [HGl.out]) (by simp [HGl.out]) (by simp [DT.at_, show m = T.nodes.length from HL.out]) (Below.refl _ w5) (av := .slice A_w1 n c_w1) (text := text) (tag := tag) (al := al) (by rw [← HNL.out]; exact hrowA5)
      (fun b hb1 hm => by
        have := hge2 b hb1
        rcases hbl b hm with h1 | h1
        · have := HH.out.1.lt b h1; omega
        · omega) (cn := (cn : Int) + 1) (by
          rw [← HcnE.out]
          simp [DT.count]) eF
    rw [hput] at hR
    have hS := HH.out.2.1
    refine ⟨⟨_, G', hR, fun b hb1 => ?_⟩, ?_⟩
    · rcases hB b hb1 with h1 | h1 | h1
      · rcases hbl b h1 with h2 | h2
        · exact .inl (hS b h2)
        · right; omega
      · right; omega
      · exact .inr (hge2 b h1).1
    · have h5 : Only S w w5 := by
        rw [← HS.out]
        refine ⟨hgrow.os.trans hb2.os, hgrow.tape.trans hb2.tape, hgrow.output.trans hb2.output, by rw [World.size_setCell]; omega, fun b hb1 hn => ?_⟩
        have h1 : b ≠ tb := fun e => hn (by rw [e]; exact hS _ (by simp [repBlocks]))
        have h2 : (Value.slice A m cap).ownBlock ≠ some b := fun e => hn (hS _ (by simp [repBlocks, hnvo, e]))
        rw [Below.heap_setCell _ _ _ _ h1, hblk4 b (by omega) h2]
        exact hb2.block b hb1
      refine h5.trans hO fun i hi hm => ?_
      rcases hbl i hm with h1 | h1
      · exact hS i h1
      · omega

theorem slot_eq (h : Rep w tb T nv G) : T.slot = G.findIdx Option.isNone := by
  have hlen := h.len
  unfold DT.slot
  have key : ∀ i (h1 : i < T.nodes.length) (h2 : i < G.length), (T.nodes[i]).isNone = (G[i]).isNone := by
    intro i h1 h2
    have ha : T.at_ i = T.nodes[i] := by simp [DT.at_, List.getElem?_eq_getElem h1]
    cases hn : T.nodes[i] with
    | none =>
      have := h.none_ i h2 (by rw [ha, hn])
      rw [List.getElem?_eq_getElem h2] at this
      simp [Option.some.inj this]
    | some n =>
      obtain ⟨g, hg, _⟩ := h.node i n (by rw [ha, hn])
      rw [List.getElem?_eq_getElem h2] at hg
      simp [Option.some.inj hg]
  clear h
  generalize T.nodes = l at *
  induction l generalizing G with
  | nil =>
    cases G with
    | nil => rfl
    | cons _ _ => simp at hlen
  | cons a l ih =>
    cases G with
    | nil => simp at hlen
    | cons b G =>
      have h0 := key 0 (by simp) (by simp)
      simp at h0
      rw [List.findIdx_cons, List.findIdx_cons, h0]
      rw [ih (G := G) (by simpa using hlen) (fun i h1 h2 => by
        have := key (i + 1) (by simpa using h1) (by simpa using h2)
        simpa using this)]

theorem add_any (h : Rep w tb T nv G) {S : Nat → Prop} (hS : ∀ b ∈ repBlocks tb nv G, S b) (hl : T.nodes.length ≤ 2000) {tag : Int} {av : Value} {text : Bytes} {n : Nat} {al : List (Bytes × Bytes)}
    (ha : RowR w 2 av n (attrCells al)) (hn : n ≤ 1000000) :
    Calls Try.prog 126 #[.pointer (some ⟨tb, 0, none⟩), .agg #[I tag, av, .string text]] w fun e w' => e = .returned (I (T.slot : Nat)) ∧ Mut tb (T.addAt ⟨tag, al, text, [], none⟩) S w w' := by
  have hlen := h.len
  have hs := slot_eq h
  by_cases hk : G.findIdx Option.isNone < G.length
  · have e : slotOf G = (T.slot : Int) := by rw [slotOf, if_pos hk, hs]
    have e2 : T.addAt ⟨tag, al, text, [], none⟩ = T.put T.slot (some ⟨tag, al, text, [], none⟩) := by rw [DT.addAt, if_pos (by omega)]
    rw [e2]
    exact add_found h hS hl ha hn e
  · have e : slotOf G = -1 := by rw [slotOf, if_neg hk]
    have hle : T.slot = T.nodes.length := by
      have : G.findIdx Option.isNone ≤ G.length := List.findIdx_le_length
      omega
    have e2 : T.addAt ⟨tag, al, text, [], none⟩ = { T with nodes := T.nodes ++ [some ⟨tag, al, text, [], none⟩] } := by rw [DT.addAt, if_neg (by omega)]
    rw [e2, hle]
    exact add_full h hS hl ha hn e
end
end Go.Proofs.Ytnnjlpkjpbbklaa

-- DomAnew: anew of package dom, Anew of the document's answer: a text, written anew in UTF-8. Conditions: a bound on its length.
namespace Go.Proofs.Ytnnjlpkjpbbklaa
open Go.RowKit

def runesOf (s : Bytes) : List Int := (Conv.runesFrom s s.size 0 #[]).toList.map intOf
/-- A text, written anew. -/
def anew (s : Bytes) : Bytes := runesBytes (runesOf s)

theorem runesFrom_ints (s : Bytes) : ∀ (bound i : Nat) (acc : Array Value), (∀ v ∈ acc.toList, v = .int .i32 (intOf v)) → ∀ v ∈ (Conv.runesFrom s bound i acc).toList, v = .int .i32 (intOf v)
  | 0, _, acc, h => by simpa [Conv.runesFrom] using h
  | bound + 1, i, acc, h => by
    unfold Conv.runesFrom
    split
    · refine runesFrom_ints s bound _ _ ?_
      intro v hv
      simp only [Array.toList_push, List.mem_append, List.mem_singleton] at hv
      rcases hv with hv | rfl
      · exact h v hv
      · rfl
    · exact h
theorem runesFrom_map (s : Bytes) : (Conv.runesFrom s s.size 0 #[]).toList = (runesOf s).map (Value.int .i32) := by
  have h := runesFrom_ints s s.size 0 #[] (by simp)
  unfold runesOf
  generalize (Conv.runesFrom s s.size 0 #[]).toList = l at *
  induction l with
  | nil => rfl
  | cons a l ih =>
    simp only [List.map_cons, List.cons.injEq]
    exact ⟨h a (by simp), ih fun v hv => h v (by simp [hv])⟩
theorem runesOf_length (s : Bytes) : (Conv.runesFrom s s.size 0 #[]).size = (runesOf s).length := by simp [runesOf]
theorem runesOf_le (s : Bytes) : (runesOf s).length ≤ s.size := by
  have := size_runesFrom s s.size 0 #[]
  rw [runesOf_length] at this
  simpa using this

theorem anew_step2 (w : World) (s : Bytes) (X : Array Value) (cap : Nat) :
    (convert 174 9 (.slice (some ⟨w.heap.size, 0, none⟩) (runesOf s).length cap)).run Try.prog (w.drew.alloc (.cells (Conv.runesFrom s s.size 0 #[] ++ X) 21)) = .ok (.string (anew s)) (w.drew.alloc (.cells (Conv.runesFrom s s.size 0 #[] ++ X) 21)) := by
  have h := run_convert_runes (P := Try.prog) (w.drew.alloc (.cells (Conv.runesFrom s s.size 0 #[] ++ X) 21)) 174 9 21 ⟨w.heap.size, 0, none⟩ (runesOf s).length cap (runesOf s) (Nat.le_refl _) Try.underlying174 Try.underlying21 Try.underlying9 (fun j hj => by
    have hA : At (w.drew.alloc (.cells (Conv.runesFrom s s.size 0 #[] ++ X) 21)) w.heap.size 21 (Conv.runesFrom s s.size 0 #[] ++ X) := At.fresh _ _ _ rfl
    have e : (⟨w.heap.size, 0, none⟩ : Addr).add j = ⟨w.heap.size, j, none⟩ := by simp [Addr.add]; exact fun h => h.symm
    rw [e, hA.cell j, Array.getElem?_append_left (by rw [runesOf_length]; exact hj)]
    have e2 : (Conv.runesFrom s s.size 0 #[])[j]? = (Conv.runesFrom s s.size 0 #[]).toList[j]? := by simp
    rw [e2, runesFrom_map, List.getElem?_map, List.getElem?_eq_getElem hj]
    simp [List.getD, List.getElem?_eq_getElem hj])
  rw [h, List.take_length]
  rfl

set_option maxHeartbeats 400000 in
theorem anew_any {w : World} (s : Bytes) (hs : s.size ≤ 1000000) : Calls Try.prog 119 #[.string s] w (Ret (.string (anew s)) w) := by
  have h1 := run_runes_of_string (P := Try.prog) w 9 174 21 s Try.underlying9 Try.underlying174 Try.underlying21 (by have := runesOf_le s; rw [runesOf_length]; omega)
  have h2 := anew_step2 w s (Array.replicate (grownCap w (Conv.runesFrom s s.size 0 #[]).size 0 21 - (Conv.runesFrom s s.size 0 #[]).size) (.int .i32 0)) (grownCap w (Conv.runesFrom s s.size 0 #[]).size 0 21)
  rw [runesOf_length, World.alloc_drew] at h1 h2
  generalize anew s = t at *
  generalize (grownCap w (runesOf s).length 0 21) = cap at *
  generalize (Conv.runesFrom s s.size 0 #[] ++ Array.replicate (cap - (runesOf s).length) (.int .i32 0)) = R at *
  generalize (runesOf s).length = n at *
  go_enter Try.func119, Try.ntmps119
  go_wp2_with fail
  go_ret
  exact ⟨rfl, (by repeat (first | exact Below.refl _ _ | assumption | (refine Below.setCell ?_ (by first | (simp; done) | (simp; omega) | omega) _) | (refine Below.alloc ?_ (by first | (simp; done) | (simp; omega) | omega) _) | (refine Below.drew ?_) | (refine Below.drewN' ?_ _)))⟩
end Go.Proofs.Ytnnjlpkjpbbklaa

-- DomMake: New, Element, Text of package dom. Conditions: the tree lies in memory.
namespace Go.Proofs.Ytnnjlpkjpbbklaa
open Go.RowKit

theorem element_any {w : World} (tag : Int) : Calls Try.prog 122 #[I tag] w (Ret (.bool (elementOk tag)) w) := by
  unfold elementOk
  by_cases h1 : 1 ≤ tag
  · have hd : decide (1 ≤ tag) = true := by simp [h1]
    go_enter Try.func122, Try.ntmps122
    go_wp2_with fail
    all_goals (go_ret; exact ⟨ret_bool (by simp_all), Below.refl _ _⟩)
  · have hd : decide (1 ≤ tag) = false := by simp [h1]
    go_enter Try.func122, Try.ntmps122
    go_wp2_with fail
    all_goals (go_ret; exact ⟨ret_bool (by simp_all), Below.refl _ _⟩)

section
variable {w : World} {tb : Nat} {T : DT} {nv : Value} {G : List (Option NG)}

theorem Mut.of_below {S : Nat → Prop} {w' : World} (h : Rep w tb T nv G) (hS : ∀ b ∈ repBlocks tb nv G, S b) (hb : Below w.heap.size w w') : Mut tb T S w w' :=
  ⟨⟨nv, G, h.keep hb, fun b hb1 => .inl (hS b hb1)⟩, Only.of_below hb⟩
theorem Mut.after {S : Nat → Prop} {w1 w2 w3 : World} (hb : Below w1.heap.size w1 w2) (h : Mut tb T S w2 w3) : Mut tb T S w1 w3 := by
  obtain ⟨⟨nv, G, hr, hs⟩, ho⟩ := h
  have := hb.size
  refine ⟨⟨nv, G, hr, fun b hb1 => ?_⟩, (Only.of_below hb).trans ho fun i _ hi => hi⟩
  rcases hs b hb1 with h1 | h1
  · exact .inl h1
  · right; omega
theorem Mut.then_ {S : Nat → Prop} {w1 w2 w3 : World} (h : Mut tb T S w1 w2) (hb : Below w2.heap.size w2 w3) : Mut tb T S w1 w3 := by
  obtain ⟨⟨nv, G, hr, hs⟩, ho⟩ := h
  exact ⟨⟨nv, G, hr.keep hb, hs⟩, ho.trans (Only.of_below (S := S) hb) fun i _ hi => hi⟩

theorem room1_any (h : Rep w tb T nv G) (n : Int) (hn : -2000 ≤ T.cap ∧ T.cap ≤ 2000) (hl : T.nodes.length ≤ 2000) : Calls Try.prog 124 #[.pointer (some ⟨tb, 0, none⟩), I n] w (Ret (.bool (decide (n ≤ T.cap - (T.count : Int)))) w) := by
  have hc := h.tree.cell
  have hcnt : T.count ≤ 2000 := Nat.le_trans List.countP_le_length hl
  generalize T.count = c at *
  generalize T.cap = cap at *
  clear h
  have hw : (cap - (c : Int)) = (cap - (c : Int)) := rfl
  go_enter Try.func124, Try.ntmps124
  go_wp2_with fail
  go_quiet (fail)
  go_wp2_with fail
  go_ret
  refine ⟨ret_bool ?_, (by repeat (first | exact Below.refl _ _ | assumption | (refine Below.setCell ?_ (by first | (simp; done) | (simp; omega) | omega) _) | (refine Below.alloc ?_ (by first | (simp; done) | (simp; omega) | omega) _) | (refine Below.drew ?_) | (refine Below.drewN' ?_ _)))⟩
  rfl

theorem RowR.form {w : World} {size : Nat} {v : Value} {n : Nat} {xs : List Value} (h : RowR w size v n xs) : ∃ A cap, v = .slice A n cap := by
  rcases h.2 with ⟨rfl, rfl⟩ | ⟨A, cap, rfl, _⟩
  · exact ⟨none, 0, rfl⟩
  · exact ⟨_, cap, rfl⟩

theorem add_from (h : Rep w tb T nv G) {S : Nat → Prop} (hS : ∀ b ∈ repBlocks tb nv G, S b) (hl : T.nodes.length ≤ 2000) (tag : Int) {av : Value} (text : Bytes) {n : Nat} {al : List (Bytes × Bytes)}
    (ha : RowR w 2 av n (attrCells al)) (hn : n ≤ 1000000) (W : World) (hW : Below w.heap.size w W) :
    Calls Try.prog 126 #[.pointer (some ⟨tb, 0, none⟩), .agg #[I tag, av, .string text]] W fun e w' => e = .returned (I (T.slot : Nat)) ∧ Mut tb (T.addAt ⟨tag, al, text, [], none⟩) S w w' := by
  refine (add_any (h.keep hW) hS hl (ha.keep hW) hn).mono ?_
  rintro e w' ⟨q1, q2⟩
  exact ⟨q1, q2.after hW⟩

set_option maxHeartbeats 1000000 in
theorem element_op_any (h : Rep w tb T nv G) {S : Nat → Prop} (hS : ∀ b ∈ repBlocks tb nv G, S b) (hn : -2000 ≤ T.cap ∧ T.cap ≤ 2000) (hl : T.nodes.length ≤ 2000) (tag : Int) {av : Value} {n : Nat} {al : List (Bytes × Bytes)}
    (ha : RowR w 2 av n (attrCells al)) (hn' : n ≤ 1000000) :
    Calls Try.prog 59 #[.pointer (some ⟨tb, 0, none⟩), I tag, av] w fun e w' => e = .returned (.tuple #[I (T.element tag al).1.1, I (T.element tag al).1.2]) ∧ Mut tb (T.element tag al).2 S w w' := by
  obtain ⟨A, cap, rfl⟩ := ha.form
  have HE := Lib.hid (fun (W : World) => element_any (w := W) tag)
  have HR := Lib.hid (fun (W : World) (hW : Below w.heap.size w W) => room1_any (h.keep hW) 1 hn hl)
  have HA := Lib.hid (add_from h hS hl tag ⟨#[]⟩ ha hn')
  have HM0 := Lib.hid (fun (W : World) (hW : Below w.heap.size w W) => Mut.of_below h hS hW)
  clear h hS ha
  unfold DT.element
  cases hok : elementOk tag with
  | false =>
    rw [hok] at HE
    rw [if_pos rfl]
    go_enter Try.func59, Try.ntmps59
    go_wp2_with (first | ((with_reducible refine (HE.out _).mono ?_); rintro e w1 ⟨rfl, hb⟩; have hz_w1 := hb.size; (try simp only [World.size_alloc, World.size_setCell, World.size_drew, size_drewN'] at hz_w1); have hb_w1 : Below w.heap.size w w1 := Below.trans (by exact (by repeat (first | exact Below.refl _ _ | assumption | (refine Below.setCell ?_ (by first | (simp; done) | (simp; omega) | omega) _) | (refine Below.alloc ?_ (by first | (simp; done) | (simp; omega) | omega) _) | (refine Below.drew ?_) | (refine Below.drewN' ?_ _)))) (hb.mono (by first | (simp; done) | (simp; omega) | omega)); obtain ⟨hc_w1, hf_w1⟩ := bcell hb_w1; clear hb))
    go_ret2
    exact ⟨rfl, HM0.out _ (by repeat (first | exact Below.refl _ _ | assumption | (refine Below.setCell ?_ (by first | (simp; done) | (simp; omega) | omega) _) | (refine Below.alloc ?_ (by first | (simp; done) | (simp; omega) | omega) _) | (refine Below.drew ?_) | (refine Below.drewN' ?_ _)))⟩
  | true =>
    rw [hok] at HE
    rw [if_neg (by simp)]
    cases hr : T.roomFor 1 with
    | false =>
      unfold DT.roomFor at hr
      rw [hr] at HR
      rw [if_pos rfl]
      clear hr
      go_enter Try.func59, Try.ntmps59
      go_wp2_with (first | ((with_reducible refine (HE.out _).mono ?_); rintro e w1 ⟨rfl, hb⟩; have hz_w1 := hb.size; (try simp only [World.size_alloc, World.size_setCell, World.size_drew, size_drewN'] at hz_w1); have hb_w1 : Below w.heap.size w w1 := Below.trans (by exact (by repeat (first | exact Below.refl _ _ | assumption | (refine Below.setCell ?_ (by first | (simp; done) | (simp; omega) | omega) _) | (refine Below.alloc ?_ (by first | (simp; done) | (simp; omega) | omega) _) | (refine Below.drew ?_) | (refine Below.drewN' ?_ _)))) (hb.mono (by first | (simp; done) | (simp; omega) | omega)); obtain ⟨hc_w1, hf_w1⟩ := bcell hb_w1; clear hb) | ((with_reducible refine (HR.out _ (by repeat (first | exact Below.refl _ _ | assumption | (refine Below.setCell ?_ (by first | (simp; done) | (simp; omega) | omega) _) | (refine Below.alloc ?_ (by first | (simp; done) | (simp; omega) | omega) _) | (refine Below.drew ?_) | (refine Below.drewN' ?_ _)))).mono ?_); rintro e w2 ⟨rfl, hb⟩; have hz_w2 := hb.size; (try simp only [World.size_alloc, World.size_setCell, World.size_drew, size_drewN'] at hz_w2); have hb_w2 : Below w.heap.size w w2 := Below.trans (by exact (by repeat (first | exact Below.refl _ _ | assumption | (refine Below.setCell ?_ (by first | (simp; done) | (simp; omega) | omega) _) | (refine Below.alloc ?_ (by first | (simp; done) | (simp; omega) | omega) _) | (refine Below.drew ?_) | (refine Below.drewN' ?_ _)))) (hb.mono (by first | (simp; done) | (simp; omega) | omega)); obtain ⟨hc_w2, hf_w2⟩ := bcell hb_w2; clear hb))
      go_ret2
      exact ⟨rfl, HM0.out _ (by repeat (first | exact Below.refl _ _ | assumption | (refine Below.setCell ?_ (by first | (simp; done) | (simp; omega) | omega) _) | (refine Below.alloc ?_ (by first | (simp; done) | (simp; omega) | omega) _) | (refine Below.drew ?_) | (refine Below.drewN' ?_ _)))⟩
    | true =>
      unfold DT.roomFor at hr
      rw [hr] at HR
      rw [if_neg (by simp)]
      clear hr
      generalize (T.slot : Int) = sl at *
      go_enter Try.func59, Try.ntmps59
      go_wp2_with (first | ((with_reducible refine (HE.out _).mono ?_); rintro e w1 ⟨rfl, hb⟩; have hz_w1 := hb.size; (try simp only [World.size_alloc, World.size_setCell, World.size_drew, size_drewN'] at hz_w1); have hb_w1 : Below w.heap.size w w1 := Below.trans (by exact (by repeat (first | exact Below.refl _ _ | assumption | (refine Below.setCell ?_ (by first | (simp; done) | (simp; omega) | omega) _) | (refine Below.alloc ?_ (by first | (simp; done) | (simp; omega) | omega) _) | (refine Below.drew ?_) | (refine Below.drewN' ?_ _)))) (hb.mono (by first | (simp; done) | (simp; omega) | omega)); obtain ⟨hc_w1, hf_w1⟩ := bcell hb_w1; clear hb) | ((with_reducible refine (HR.out _ (by repeat (first | exact Below.refl _ _ | assumption | (refine Below.setCell ?_ (by first | (simp; done) | (simp; omega) | omega) _) | (refine Below.alloc ?_ (by first | (simp; done) | (simp; omega) | omega) _) | (refine Below.drew ?_) | (refine Below.drewN' ?_ _)))).mono ?_); rintro e w2 ⟨rfl, hb⟩; have hz_w2 := hb.size; (try simp only [World.size_alloc, World.size_setCell, World.size_drew, size_drewN'] at hz_w2); have hb_w2 : Below w.heap.size w w2 := Below.trans (by exact (by repeat (first | exact Below.refl _ _ | assumption | (refine Below.setCell ?_ (by first | (simp; done) | (simp; omega) | omega) _) | (refine Below.alloc ?_ (by first | (simp; done) | (simp; omega) | omega) _) | (refine Below.drew ?_) | (refine Below.drewN' ?_ _)))) (hb.mono (by first | (simp; done) | (simp; omega) | omega)); obtain ⟨hc_w2, hf_w2⟩ := bcell hb_w2; clear hb) | ((with_reducible refine (HA.out _ (by repeat (first | exact Below.refl _ _ | assumption | (refine Below.setCell ?_ (by first | (simp; done) | (simp; omega) | omega) _) | (refine Below.alloc ?_ (by first | (simp; done) | (simp; omega) | omega) _) | (refine Below.drew ?_) | (refine Below.drewN' ?_ _)))).mono ?_); rintro e w3 ⟨rfl, hm⟩; have HM := Lib.hid hm; clear hm))
      go_ret2
      exact ⟨rfl, HM.out⟩

set_option maxHeartbeats 1000000 in
theorem text_op_any (h : Rep w tb T nv G) {S : Nat → Prop} (hS : ∀ b ∈ repBlocks tb nv G, S b) (hn : -2000 ≤ T.cap ∧ T.cap ≤ 2000) (hl : T.nodes.length ≤ 2000) (s : Bytes) (hs : s.size ≤ 1000000) :
    Calls Try.prog 56 #[.pointer (some ⟨tb, 0, none⟩), .string s] w fun e w' => e = .returned (.tuple #[I (T.text (anew s)).1.1, I (T.text (anew s)).1.2]) ∧ Mut tb (T.text (anew s)).2 S w w' := by
  have HE := Lib.hid (fun (W : World) => anew_any (w := W) s hs)
  have hsz : (anew s).size ≤ 4000000 := by
    have h1 := runesBytes_size_le (runesOf s)
    have h2 := runesOf_le s
    unfold anew
    omega
  generalize anew s = t at *
  have HR := Lib.hid (fun (W : World) (hW : Below w.heap.size w W) => room1_any (h.keep hW) 1 hn hl)
  have HA := Lib.hid (add_from h hS hl 0 t (al := []) (RowR.nil w 2) (Nat.zero_le _))
  have HM0 := Lib.hid (fun (W : World) (hW : Below w.heap.size w W) => Mut.of_below h hS hW)
  clear h hS
  unfold DT.text
  by_cases hlen : 8192 < t.size
  · rw [if_pos hlen]
    go_enter Try.func56, Try.ntmps56
    go_wp2_with (first | ((with_reducible refine (HE.out _).mono ?_); rintro e w1 ⟨rfl, hb⟩; have hz_w1 := hb.size; (try simp only [World.size_alloc, World.size_setCell, World.size_drew, size_drewN'] at hz_w1); have hb_w1 : Below w.heap.size w w1 := Below.trans (by exact (by repeat (first | exact Below.refl _ _ | assumption | (refine Below.setCell ?_ (by first | (simp; done) | (simp; omega) | omega) _) | (refine Below.alloc ?_ (by first | (simp; done) | (simp; omega) | omega) _) | (refine Below.drew ?_) | (refine Below.drewN' ?_ _)))) (hb.mono (by first | (simp; done) | (simp; omega) | omega)); obtain ⟨hc_w1, hf_w1⟩ := bcell hb_w1; clear hb))
    go_ret2
    exact ⟨rfl, HM0.out _ (by repeat (first | exact Below.refl _ _ | assumption | (refine Below.setCell ?_ (by first | (simp; done) | (simp; omega) | omega) _) | (refine Below.alloc ?_ (by first | (simp; done) | (simp; omega) | omega) _) | (refine Below.drew ?_) | (refine Below.drewN' ?_ _)))⟩
  · rw [if_neg hlen]
    cases hr : T.roomFor 1 with
    | false =>
      unfold DT.roomFor at hr
      rw [hr] at HR
      rw [if_pos rfl]
      clear hr
      go_enter Try.func56, Try.ntmps56
      go_wp2_with (first | ((with_reducible refine (HE.out _).mono ?_); rintro e w1 ⟨rfl, hb⟩; have hz_w1 := hb.size; (try simp only [World.size_alloc, World.size_setCell, World.size_drew, size_drewN'] at hz_w1); have hb_w1 : Below w.heap.size w w1 := Below.trans (by exact (by repeat (first | exact Below.refl _ _ | assumption | (refine Below.setCell ?_ (by first | (simp; done) | (simp; omega) | omega) _) | (refine Below.alloc ?_ (by first | (simp; done) | (simp; omega) | omega) _) | (refine Below.drew ?_) | (refine Below.drewN' ?_ _)))) (hb.mono (by first | (simp; done) | (simp; omega) | omega)); obtain ⟨hc_w1, hf_w1⟩ := bcell hb_w1; clear hb) | ((with_reducible refine (HR.out _ (by repeat (first | exact Below.refl _ _ | assumption | (refine Below.setCell ?_ (by first | (simp; done) | (simp; omega) | omega) _) | (refine Below.alloc ?_ (by first | (simp; done) | (simp; omega) | omega) _) | (refine Below.drew ?_) | (refine Below.drewN' ?_ _)))).mono ?_); rintro e w2 ⟨rfl, hb⟩; have hz_w2 := hb.size; (try simp only [World.size_alloc, World.size_setCell, World.size_drew, size_drewN'] at hz_w2); have hb_w2 : Below w.heap.size w w2 := Below.trans (by exact (by repeat (first | exact Below.refl _ _ | assumption | (refine Below.setCell ?_ (by first | (simp; done) | (simp; omega) | omega) _) | (refine Below.alloc ?_ (by first | (simp; done) | (simp; omega) | omega) _) | (refine Below.drew ?_) | (refine Below.drewN' ?_ _)))) (hb.mono (by first | (simp; done) | (simp; omega) | omega)); obtain ⟨hc_w2, hf_w2⟩ := bcell hb_w2; clear hb))
      go_ret2
      exact ⟨rfl, HM0.out _ (by repeat (first | exact Below.refl _ _ | assumption | (refine Below.setCell ?_ (by first | (simp; done) | (simp; omega) | omega) _) | (refine Below.alloc ?_ (by first | (simp; done) | (simp; omega) | omega) _) | (refine Below.drew ?_) | (refine Below.drewN' ?_ _)))⟩
    | true =>
      unfold DT.roomFor at hr
      rw [hr] at HR
      rw [if_neg (by simp)]
      clear hr
      generalize (T.slot : Int) = sl at *
      go_enter Try.func56, Try.ntmps56
      go_wp2_with (first | ((with_reducible refine (HE.out _).mono ?_); rintro e w1 ⟨rfl, hb⟩; have hz_w1 := hb.size; (try simp only [World.size_alloc, World.size_setCell, World.size_drew, size_drewN'] at hz_w1); have hb_w1 : Below w.heap.size w w1 := Below.trans (by exact (by repeat (first | exact Below.refl _ _ | assumption | (refine Below.setCell ?_ (by first | (simp; done) | (simp; omega) | omega) _) | (refine Below.alloc ?_ (by first | (simp; done) | (simp; omega) | omega) _) | (refine Below.drew ?_) | (refine Below.drewN' ?_ _)))) (hb.mono (by first | (simp; done) | (simp; omega) | omega)); obtain ⟨hc_w1, hf_w1⟩ := bcell hb_w1; clear hb) | ((with_reducible refine (HR.out _ (by repeat (first | exact Below.refl _ _ | assumption | (refine Below.setCell ?_ (by first | (simp; done) | (simp; omega) | omega) _) | (refine Below.alloc ?_ (by first | (simp; done) | (simp; omega) | omega) _) | (refine Below.drew ?_) | (refine Below.drewN' ?_ _)))).mono ?_); rintro e w2 ⟨rfl, hb⟩; have hz_w2 := hb.size; (try simp only [World.size_alloc, World.size_setCell, World.size_drew, size_drewN'] at hz_w2); have hb_w2 : Below w.heap.size w w2 := Below.trans (by exact (by repeat (first | exact Below.refl _ _ | assumption | (refine Below.setCell ?_ (by first | (simp; done) | (simp; omega) | omega) _) | (refine Below.alloc ?_ (by first | (simp; done) | (simp; omega) | omega) _) | (refine Below.drew ?_) | (refine Below.drewN' ?_ _)))) (hb.mono (by first | (simp; done) | (simp; omega) | omega)); obtain ⟨hc_w2, hf_w2⟩ := bcell hb_w2; clear hb) | ((with_reducible refine (HA.out _ (by repeat (first | exact Below.refl _ _ | assumption | (refine Below.setCell ?_ (by first | (simp; done) | (simp; omega) | omega) _) | (refine Below.alloc ?_ (by first | (simp; done) | (simp; omega) | omega) _) | (refine Below.drew ?_) | (refine Below.drewN' ?_ _)))).mono ?_); rintro e w3 ⟨rfl, hm⟩; have HM := Lib.hid hm; clear hm))
      go_ret2
      exact ⟨rfl, HM.out⟩

/-- What New hands back. -/
def newOk (cap dep : Int) : Bool := decide (1 ≤ cap) && decide (cap ≤ 2000) && decide (0 ≤ dep) && decide (dep ≤ 40)

theorem new_bad {w : World} {cap dep : Int} (h : newOk cap dep = false) : Calls Try.prog 53 #[I cap, I dep] w (Ret (.tuple #[.pointer none, I 1]) w) := by
  unfold newOk at h
  go_enter Try.func53, Try.ntmps53
  go_wp2_with fail
  all_goals (first | (go_ret2; exact ⟨rfl, Below.refl _ _⟩) | (exfalso; simp_all; done) | (exfalso; simp_all; omega))

end
end Go.Proofs.Ytnnjlpkjpbbklaa

-- DomNew: New of package dom, where it makes a tree. Conditions: none.
namespace Go.Proofs.Ytnnjlpkjpbbklaa
open Go.RowKit

set_option maxHeartbeats 200000 in
theorem new_ok {w : World} {cap dep : Int} (h : newOk cap dep = true) :
    Calls Try.prog 53 #[I cap, I dep] w fun e w' => e = .returned (.tuple #[.pointer (some ⟨w.heap.size, 0, none⟩), I 0]) ∧ Tree w' w.heap.size (DT.new cap dep) (fun b => w.heap.size ≤ b) ∧ Below w.heap.size w w' := by
  have hc : 1 ≤ cap ∧ cap ≤ 2000 ∧ 0 ≤ dep ∧ dep ≤ 40 := by simp [newOk] at h; omega
  have HA : Hid (∀ W : World, At W w.heap.size 143 #[I cap, I dep, I 0, .slice none 0 0] → Below w.heap.size w W → Calls Try.prog 126 #[.pointer (some ⟨w.heap.size, 0, none⟩), .agg #[I 1, .slice none 0 0, .string ⟨#[]⟩]] W fun e w' => e = .returned (I 0) ∧ Tree w' w.heap.size (DT.new cap dep) (fun b => w.heap.size ≤ b) ∧ Below w.heap.size w w') := by
    intro W hA hb
    have hz := hb.size
    have e0 : (⟨cap, dep, []⟩ : DT).slot = 0 := by simp [DT.slot]
    have e1 : (⟨cap, dep, []⟩ : DT).addAt ⟨1, [], ByteArray.empty, [], none⟩ = DT.new cap dep := by simp [DT.addAt, DT.slot, DT.new]
    have hR : Rep W w.heap.size ⟨cap, dep, []⟩ (.slice none 0 0) [] := ⟨hA, rfl, World.ownsRow_nil _ _ _ _, fun i n hn => by simp [DT.at_] at hn, fun i hi => by simp at hi, by simp [repBlocks, Value.ownBlock]⟩
    refine (add_any hR (S := fun b => b = w.heap.size) (fun b hb1 => by simpa [repBlocks, Value.ownBlock] using hb1) (by simp) (tag := 1) (text := ByteArray.empty) (al := []) (RowR.nil W 2) (Nat.zero_le _)).mono ?_
    rintro e w' ⟨he, ⟨nv, G, hr, hs⟩, ho⟩
    rw [e0] at he
    rw [e1] at hr
    clear e0 e1
    refine ⟨he, ⟨nv, G, hr, fun b hb1 => ?_⟩, ?_⟩
    · rcases hs b hb1 with h1 | h1 <;> omega
    · exact ⟨ho.os.trans hb.os, ho.tape.trans hb.tape, ho.output.trans hb.output, Nat.le_trans hz ho.size, fun k hk => (ho.block k (Nat.lt_of_lt_of_le hk hz) (show ¬ (k = w.heap.size) by omega)).trans (hb.block k hk)⟩
  have h1 : decide (1 ≤ cap) = true := by simp; omega
  go_enter Try.func53, Try.ntmps53
  go_wp2_with (go_at_call 126; refine (HA.out _ (by (repeat' (first | (with_reducible assumption) | (with_reducible refine unhid ?_; with_reducible assumption) | (with_reducible refine At.fresh _ _ _ (by first | (simp; done) | (simp; omega) | omega)) | (with_reducible apply At.set') | (with_reducible apply At.far) | (with_reducible apply At.alloc) | (with_reducible apply At.drew) | (with_reducible apply At.drewN) | exact (rfl : Array.setIfInBounds _ _ _ = _) | (refine Ne.symm ?_; simp; done) | (show _ ≠ _; simp; done) | (show _ ≠ _; simp; omega) | (show _ ≠ _; omega))); (first | done | fail)) (by repeat (first | exact Below.refl _ _ | assumption | (refine Below.setCell ?_ (by first | (simp; done) | (simp; omega) | omega) _) | (refine Below.alloc ?_ (by first | (simp; done) | (simp; omega) | omega) _) | (refine Below.drew ?_) | (refine Below.drewN' ?_ _)))).mono ?_; rintro e w3 ⟨rfl, hm⟩; have HM := Lib.hid hm; clear hm)
  all_goals (first | (go_ret2; exact ⟨rfl, HM.out⟩) | (exfalso; omega))
end Go.Proofs.Ytnnjlpkjpbbklaa

-- DomSet: SetAttrs, SetText, SetTag of package dom. Conditions: the tree lies in memory.
namespace Go.Proofs.Ytnnjlpkjpbbklaa
open Go.RowKit

section
variable {w : World} {tb : Nat} {T : DT} {nv : Value} {G : List (Option NG)}

theorem Rep.node_nodup (h : Rep w tb T nv G) {i : Nat} {g : NG} (hg : G[i]? = some (some g)) : g.blocks.Nodup := by
  have hn := h.nodup
  obtain ⟨l1, l2, e, _, _⟩ := split_get hg
  rw [repBlocks_eq, e, List.flatMap_append, List.flatMap_cons] at hn
  exact (List.nodup_append.1 (List.nodup_append.1 (List.nodup_append.1 hn).2.1).2.1).1

theorem NG.b_ne {g : NG} (h : g.blocks.Nodup) : g.av.ownBlock ≠ some g.b ∧ g.kv.ownBlock ≠ some g.b ∧ ∀ b, g.av.ownBlock = some b → g.kv.ownBlock ≠ some b := by
  simp only [NG.blocks, List.nodup_cons, List.mem_append, Option.mem_toList, not_or, List.nodup_append] at h
  obtain ⟨⟨h1, h2⟩, _, _, h5⟩ := h
  exact ⟨fun e => h1 (by simp [e]), fun e => h2 (by simp [e]), fun b e e' => h5 b (by simp [e]) b (by simp [e']) rfl⟩

/-- One node is changed where it lies: nothing but its own blocks has turned. -/
theorem Mut.node {S : Nat → Prop} {w' : World} (h : Rep w tb T nv G) (hS : ∀ b ∈ repBlocks tb nv G, S b) {i : Nat} {n n' : Nd} {g g' : NG} (hn : T.at_ i = some n) (hg : G[i]? = some (some g)) (hb : g'.b = g.b)
    (hr : NodeRep w' g' n') (hO : Only (fun b => b ∈ g.blocks) w w') (hnd : g'.blocks.Nodup) (hnew : ∀ b ∈ g'.blocks, b ∈ g.blocks ∨ w.heap.size ≤ b) : Mut tb (T.put i (some n')) S w w' := by
  refine ⟨⟨nv, _, h.setNode hn hg hb hr (fun b hb1 hb2 => hO.block b (h.lt b hb1) hb2) hnd hnew, Rep.set_blocks (fun b hb1 => .inl (hS b hb1)) fun b hb1 => ?_⟩, hO.mono fun b hb1 => hS b (mem_repBlocks_node hg hb1)⟩
  rcases hnew b hb1 with h1 | h1
  · exact .inl (hS b (mem_repBlocks_node hg h1))
  · exact .inr h1

/-- One cell of a node is written; its slices stay. -/
theorem Mut.cell {S : Nat → Prop} {w1 w' : World} (h : Rep w tb T nv G) (hS : ∀ b ∈ repBlocks tb nv G, S b) {i k : Nat} {u : Value} {n n' : Nd} {g : NG} (hn : T.at_ i = some n) (hg : G[i]? = some (some g)) (hr : NodeRep w g n) (hb : Below w.heap.size w w1)
    (hw : w' = w1.setCell ⟨g.b, k, none⟩ u) (hc : (#[I n.tag, g.av, .string n.text, g.kv, I (DT.upI n.up)] : Array Value).setIfInBounds k u = #[I n'.tag, g.av, .string n'.text, g.kv, I (DT.upI n'.up)]) (ha : n'.attrs = n.attrs) (hk : n'.kids = n.kids) : Mut tb (T.put i (some n')) S w w' := by
  have hnd := h.node_nodup hg
  have hne := NG.b_ne hnd
  have hz := hb.size
  have hlt := hr.lt
  subst hw
  refine Mut.node h hS hn hg rfl ⟨?_, ?_, ?_⟩ ?_ hnd fun b hb1 => .inl hb1
  · exact (hr.1.keep hb).set' hc
  · rw [ha]
    exact (hr.2.1.keep hb).same fun b hb1 => Below.heap_setCell _ _ _ _ (fun e => hne.1 (by rw [hb1]; exact congrArg some e))
  · rw [hk]
    exact (hr.2.2.keep hb).same fun b hb1 => Below.heap_setCell _ _ _ _ (fun e => hne.2.1 (by rw [hb1]; exact congrArg some e))
  · refine ⟨hb.os, hb.tape, hb.output, by rw [World.size_setCell]; exact hz, fun b hb1 hn' => ?_⟩
    rw [Below.heap_setCell _ _ _ _ (fun e => hn' (by rw [show b = g.b from e]; simp [NG.blocks]))]
    exact hb.block b hb1

set_option maxHeartbeats 1000000 in
theorem setText_any (h : Rep w tb T nv G) {S : Nat → Prop} (hS : ∀ b ∈ repBlocks tb nv G, S b) (hl : T.nodes.length ≤ 2000) (id : Int) (s : Bytes) (hs : s.size ≤ 1000000) :
    Calls Try.prog 38 #[.pointer (some ⟨tb, 0, none⟩), I id, .string s] w fun e w' => e = .returned (I (T.setText id (anew s)).1) ∧ Mut tb (T.setText id (anew s)).2 S w w' := by
  have HE := Lib.hid (fun (W : World) => anew_any (w := W) s hs)
  have hsz : (anew s).size ≤ 4000000 := by
    have h1 := runesBytes_size_le (runesOf s)
    have h2 := runesOf_le s
    unfold anew
    omega
  generalize anew s = t at *
  have HM0 := Lib.hid (fun (W : World) (hW : Below w.heap.size w W) => Mut.of_below h hS hW)
  unfold DT.setText
  cases hn : T.get id with
  | none =>
    have HG := Lib.hid (fun (W : World) (hW : Below w.heap.size w W) => get_none (h.keep hW) hl hn)
    clear h hS hn
    go_enter Try.func38, Try.ntmps38
    go_wp2_with (first | ((with_reducible refine (HE.out _).mono ?_); rintro e w1 ⟨rfl, hb⟩; have hz_w1 := hb.size; (try simp only [World.size_alloc, World.size_setCell, World.size_drew, size_drewN'] at hz_w1); have hb_w1 : Below w.heap.size w w1 := Below.trans (by exact (by repeat (first | exact Below.refl _ _ | assumption | (refine Below.setCell ?_ (by first | (simp; done) | (simp; omega) | omega) _) | (refine Below.alloc ?_ (by first | (simp; done) | (simp; omega) | omega) _) | (refine Below.drew ?_) | (refine Below.drewN' ?_ _)))) (hb.mono (by first | (simp; done) | (simp; omega) | omega)); obtain ⟨hc_w1, hf_w1⟩ := bcell hb_w1; clear hb) | ((with_reducible refine (HG.out _ (by repeat (first | exact Below.refl _ _ | assumption | (refine Below.setCell ?_ (by first | (simp; done) | (simp; omega) | omega) _) | (refine Below.alloc ?_ (by first | (simp; done) | (simp; omega) | omega) _) | (refine Below.drew ?_) | (refine Below.drewN' ?_ _)))).mono ?_); rintro e w' ⟨rfl, rfl⟩))
    go_ret
    exact ⟨rfl, HM0.out _ (by repeat (first | exact Below.refl _ _ | assumption | (refine Below.setCell ?_ (by first | (simp; done) | (simp; omega) | omega) _) | (refine Below.alloc ?_ (by first | (simp; done) | (simp; omega) | omega) _) | (refine Below.drew ?_) | (refine Below.drewN' ?_ _)))⟩
  | some n =>
    dsimp only
    obtain ⟨h0, h1, h2⟩ := DT.get_some hn
    obtain ⟨g, hp, hr, hg⟩ := h.ptr_some hn
    have HG : Hid (∀ (W : World), Below w.heap.size w W → Calls Try.prog 112 #[.pointer (some ⟨tb, 0, none⟩), .int .i64 id] W fun e w' => e = .returned (.pointer (some ⟨g.b, 0, none⟩)) ∧ W = w') := by
      intro W hW
      have := get_any (h.keep hW) hl id
      rw [hp] at this
      exact this
    have hgb := hr.1.lt
    have hc := hr.1.cell
    have hf := hr.1.frozen
    have HH := Lib.hid (And.intro h (And.intro hS (And.intro h1 (And.intro hr hg))))
    clear h hS hn h1 hr hg hp
    by_cases ht : n.tag = 0
    · have hd : (n.tag == 0) = true := by simp [ht]
      rw [if_neg (by simp [ht])]
      rw [ht] at hc
      by_cases hlen : 8192 < t.size
      · rw [if_pos hlen]
        go_enter Try.func38, Try.ntmps38
        go_wp2_with (first | ((with_reducible refine (HE.out _).mono ?_); rintro e w1 ⟨rfl, hb⟩; have hz_w1 := hb.size; (try simp only [World.size_alloc, World.size_setCell, World.size_drew, size_drewN'] at hz_w1); have hb_w1 : Below w.heap.size w w1 := Below.trans (by exact (by repeat (first | exact Below.refl _ _ | assumption | (refine Below.setCell ?_ (by first | (simp; done) | (simp; omega) | omega) _) | (refine Below.alloc ?_ (by first | (simp; done) | (simp; omega) | omega) _) | (refine Below.drew ?_) | (refine Below.drewN' ?_ _)))) (hb.mono (by first | (simp; done) | (simp; omega) | omega)); obtain ⟨hc_w1, hf_w1⟩ := bcell hb_w1; clear hb) | ((with_reducible refine (HG.out _ (by repeat (first | exact Below.refl _ _ | assumption | (refine Below.setCell ?_ (by first | (simp; done) | (simp; omega) | omega) _) | (refine Below.alloc ?_ (by first | (simp; done) | (simp; omega) | omega) _) | (refine Below.drew ?_) | (refine Below.drewN' ?_ _)))).mono ?_); rintro e w' ⟨rfl, rfl⟩))
        go_ret
        exact ⟨rfl, HM0.out _ (by repeat (first | exact Below.refl _ _ | assumption | (refine Below.setCell ?_ (by first | (simp; done) | (simp; omega) | omega) _) | (refine Below.alloc ?_ (by first | (simp; done) | (simp; omega) | omega) _) | (refine Below.drew ?_) | (refine Below.drewN' ?_ _)))⟩
      · rw [if_neg hlen]
        have HT := Lib.hid ht
        clear ht
        go_enter Try.func38, Try.ntmps38
        go_wp2_with (first | ((with_reducible refine (HE.out _).mono ?_); rintro e w1 ⟨rfl, hb⟩; have hz_w1 := hb.size; (try simp only [World.size_alloc, World.size_setCell, World.size_drew, size_drewN'] at hz_w1); have hb_w1 : Below w.heap.size w w1 := Below.trans (by exact (by repeat (first | exact Below.refl _ _ | assumption | (refine Below.setCell ?_ (by first | (simp; done) | (simp; omega) | omega) _) | (refine Below.alloc ?_ (by first | (simp; done) | (simp; omega) | omega) _) | (refine Below.drew ?_) | (refine Below.drewN' ?_ _)))) (hb.mono (by first | (simp; done) | (simp; omega) | omega)); obtain ⟨hc_w1, hf_w1⟩ := bcell hb_w1; clear hb) | ((with_reducible refine (HG.out _ (by repeat (first | exact Below.refl _ _ | assumption | (refine Below.setCell ?_ (by first | (simp; done) | (simp; omega) | omega) _) | (refine Below.alloc ?_ (by first | (simp; done) | (simp; omega) | omega) _) | (refine Below.drew ?_) | (refine Below.drewN' ?_ _)))).mono ?_); rintro e w' ⟨rfl, rfl⟩))
        go_ret
        exact ⟨rfl, Mut.cell HH.out.1 HH.out.2.1 HH.out.2.2.1 HH.out.2.2.2.2 HH.out.2.2.2.1 hb_w1 rfl rfl rfl rfl⟩
    · have hd : (n.tag == 0) = false := by simp [ht]
      have hd2 : (n.tag != 0) = true := by simp [ht]
      rw [if_pos ht]
      go_enter Try.func38, Try.ntmps38
      go_wp2_with (first | ((with_reducible refine (HE.out _).mono ?_); rintro e w1 ⟨rfl, hb⟩; have hz_w1 := hb.size; (try simp only [World.size_alloc, World.size_setCell, World.size_drew, size_drewN'] at hz_w1); have hb_w1 : Below w.heap.size w w1 := Below.trans (by exact (by repeat (first | exact Below.refl _ _ | assumption | (refine Below.setCell ?_ (by first | (simp; done) | (simp; omega) | omega) _) | (refine Below.alloc ?_ (by first | (simp; done) | (simp; omega) | omega) _) | (refine Below.drew ?_) | (refine Below.drewN' ?_ _)))) (hb.mono (by first | (simp; done) | (simp; omega) | omega)); obtain ⟨hc_w1, hf_w1⟩ := bcell hb_w1; clear hb) | ((with_reducible refine (HG.out _ (by repeat (first | exact Below.refl _ _ | assumption | (refine Below.setCell ?_ (by first | (simp; done) | (simp; omega) | omega) _) | (refine Below.alloc ?_ (by first | (simp; done) | (simp; omega) | omega) _) | (refine Below.drew ?_) | (refine Below.drewN' ?_ _)))).mono ?_); rintro e w' ⟨rfl, rfl⟩))
      go_ret
      exact ⟨rfl, HM0.out _ (by repeat (first | exact Below.refl _ _ | assumption | (refine Below.setCell ?_ (by first | (simp; done) | (simp; omega) | omega) _) | (refine Below.alloc ?_ (by first | (simp; done) | (simp; omega) | omega) _) | (refine Below.drew ?_) | (refine Below.drewN' ?_ _)))⟩

set_option maxHeartbeats 1000000 in
theorem setTag_any (h : Rep w tb T nv G) {S : Nat → Prop} (hS : ∀ b ∈ repBlocks tb nv G, S b) (hl : T.nodes.length ≤ 2000) (id tag : Int) :
    Calls Try.prog 44 #[.pointer (some ⟨tb, 0, none⟩), I id, I tag] w fun e w' => e = .returned (I (T.setTag id tag).1) ∧ Mut tb (T.setTag id tag).2 S w w' := by
  have HE := Lib.hid (fun (W : World) => element_any (w := W) tag)
  have HM0 := Lib.hid (fun (W : World) (hW : Below w.heap.size w W) => Mut.of_below h hS hW)
  unfold DT.setTag
  cases hn : T.get id with
  | none =>
    have HG := Lib.hid (get_none h hl hn)
    clear h hS hn
    go_enter Try.func44, Try.ntmps44
    go_wp2_with (first | ((with_reducible refine (HE.out _).mono ?_); rintro e w1 ⟨rfl, hb⟩; have hz_w1 := hb.size; (try simp only [World.size_alloc, World.size_setCell, World.size_drew, size_drewN'] at hz_w1); have hb_w1 : Below w.heap.size w w1 := Below.trans (by exact (by repeat (first | exact Below.refl _ _ | assumption | (refine Below.setCell ?_ (by first | (simp; done) | (simp; omega) | omega) _) | (refine Below.alloc ?_ (by first | (simp; done) | (simp; omega) | omega) _) | (refine Below.drew ?_) | (refine Below.drewN' ?_ _)))) (hb.mono (by first | (simp; done) | (simp; omega) | omega)); obtain ⟨hc_w1, hf_w1⟩ := bcell hb_w1; clear hb) | ((with_reducible refine (HG.out).mono ?_); rintro e w' ⟨rfl, rfl⟩))
    go_ret
    exact ⟨rfl, HM0.out _ (by repeat (first | exact Below.refl _ _ | assumption | (refine Below.setCell ?_ (by first | (simp; done) | (simp; omega) | omega) _) | (refine Below.alloc ?_ (by first | (simp; done) | (simp; omega) | omega) _) | (refine Below.drew ?_) | (refine Below.drewN' ?_ _)))⟩
  | some n =>
    dsimp only
    obtain ⟨h0, h1, h2⟩ := DT.get_some hn
    obtain ⟨g, hp, hr, hg⟩ := h.ptr_some hn
    have HG : Hid (Calls Try.prog 112 #[.pointer (some ⟨tb, 0, none⟩), .int .i64 id] w fun e w' => e = .returned (.pointer (some ⟨g.b, 0, none⟩)) ∧ w = w') := by
      have := get_any h hl id
      rw [hp] at this
      exact this
    have hgb := hr.1.lt
    have hc := hr.1.cell
    have hf := hr.1.frozen
    have HH := Lib.hid (And.intro h (And.intro hS (And.intro h1 (And.intro hr hg))))
    clear h hS hn h1 hr hg hp
    by_cases ht : n.tag = 0
    · have hd : (n.tag == 0) = true := by simp [ht]
      rw [if_pos ht]
      rw [ht] at hc
      go_enter Try.func44, Try.ntmps44
      go_wp2_with (first | ((with_reducible refine (HE.out _).mono ?_); rintro e w1 ⟨rfl, hb⟩; have hz_w1 := hb.size; (try simp only [World.size_alloc, World.size_setCell, World.size_drew, size_drewN'] at hz_w1); have hb_w1 : Below w.heap.size w w1 := Below.trans (by exact (by repeat (first | exact Below.refl _ _ | assumption | (refine Below.setCell ?_ (by first | (simp; done) | (simp; omega) | omega) _) | (refine Below.alloc ?_ (by first | (simp; done) | (simp; omega) | omega) _) | (refine Below.drew ?_) | (refine Below.drewN' ?_ _)))) (hb.mono (by first | (simp; done) | (simp; omega) | omega)); obtain ⟨hc_w1, hf_w1⟩ := bcell hb_w1; clear hb) | ((with_reducible refine (HG.out).mono ?_); rintro e w' ⟨rfl, rfl⟩))
      go_ret
      exact ⟨rfl, HM0.out _ (by repeat (first | exact Below.refl _ _ | assumption | (refine Below.setCell ?_ (by first | (simp; done) | (simp; omega) | omega) _) | (refine Below.alloc ?_ (by first | (simp; done) | (simp; omega) | omega) _) | (refine Below.drew ?_) | (refine Below.drewN' ?_ _)))⟩
    · have hd : (n.tag == 0) = false := by simp [ht]
      rw [if_neg ht]
      cases hok : elementOk tag with
      | false =>
        rw [hok] at HE
        rw [if_pos (.inl rfl)]
        go_enter Try.func44, Try.ntmps44
        go_wp2_with (first | ((with_reducible refine (HE.out _).mono ?_); rintro e w1 ⟨rfl, hb⟩; have hz_w1 := hb.size; (try simp only [World.size_alloc, World.size_setCell, World.size_drew, size_drewN'] at hz_w1); have hb_w1 : Below w.heap.size w w1 := Below.trans (by exact (by repeat (first | exact Below.refl _ _ | assumption | (refine Below.setCell ?_ (by first | (simp; done) | (simp; omega) | omega) _) | (refine Below.alloc ?_ (by first | (simp; done) | (simp; omega) | omega) _) | (refine Below.drew ?_) | (refine Below.drewN' ?_ _)))) (hb.mono (by first | (simp; done) | (simp; omega) | omega)); obtain ⟨hc_w1, hf_w1⟩ := bcell hb_w1; clear hb) | ((with_reducible refine (HG.out).mono ?_); rintro e w' ⟨rfl, rfl⟩))
        go_ret
        exact ⟨rfl, HM0.out _ (by repeat (first | exact Below.refl _ _ | assumption | (refine Below.setCell ?_ (by first | (simp; done) | (simp; omega) | omega) _) | (refine Below.alloc ?_ (by first | (simp; done) | (simp; omega) | omega) _) | (refine Below.drew ?_) | (refine Below.drewN' ?_ _)))⟩
      | true =>
        rw [hok] at HE
        by_cases hid : id = 0
        · have hd3 : (id == 0) = true := by simp [hid]
          rw [if_pos (.inr hid)]
          clear hid
          go_enter Try.func44, Try.ntmps44
          go_wp2_with (first | ((with_reducible refine (HE.out _).mono ?_); rintro e w1 ⟨rfl, hb⟩; have hz_w1 := hb.size; (try simp only [World.size_alloc, World.size_setCell, World.size_drew, size_drewN'] at hz_w1); have hb_w1 : Below w.heap.size w w1 := Below.trans (by exact (by repeat (first | exact Below.refl _ _ | assumption | (refine Below.setCell ?_ (by first | (simp; done) | (simp; omega) | omega) _) | (refine Below.alloc ?_ (by first | (simp; done) | (simp; omega) | omega) _) | (refine Below.drew ?_) | (refine Below.drewN' ?_ _)))) (hb.mono (by first | (simp; done) | (simp; omega) | omega)); obtain ⟨hc_w1, hf_w1⟩ := bcell hb_w1; clear hb) | ((with_reducible refine (HG.out).mono ?_); rintro e w' ⟨rfl, rfl⟩))
          go_ret
          exact ⟨rfl, HM0.out _ (by repeat (first | exact Below.refl _ _ | assumption | (refine Below.setCell ?_ (by first | (simp; done) | (simp; omega) | omega) _) | (refine Below.alloc ?_ (by first | (simp; done) | (simp; omega) | omega) _) | (refine Below.drew ?_) | (refine Below.drewN' ?_ _)))⟩
        · have hd3 : (id == 0) = false := by simp [hid]
          rw [if_neg (by simp [hid])]
          clear hid
          go_enter Try.func44, Try.ntmps44
          go_wp2_with (first | ((with_reducible refine (HE.out _).mono ?_); rintro e w1 ⟨rfl, hb⟩; have hz_w1 := hb.size; (try simp only [World.size_alloc, World.size_setCell, World.size_drew, size_drewN'] at hz_w1); have hb_w1 : Below w.heap.size w w1 := Below.trans (by exact (by repeat (first | exact Below.refl _ _ | assumption | (refine Below.setCell ?_ (by first | (simp; done) | (simp; omega) | omega) _) | (refine Below.alloc ?_ (by first | (simp; done) | (simp; omega) | omega) _) | (refine Below.drew ?_) | (refine Below.drewN' ?_ _)))) (hb.mono (by first | (simp; done) | (simp; omega) | omega)); obtain ⟨hc_w1, hf_w1⟩ := bcell hb_w1; clear hb) | ((with_reducible refine (HG.out).mono ?_); rintro e w' ⟨rfl, rfl⟩))
          go_ret
          exact ⟨rfl, Mut.cell HH.out.1 HH.out.2.1 HH.out.2.2.1 HH.out.2.2.2.2 HH.out.2.2.2.1 hb_w1 rfl rfl rfl rfl⟩
end
end Go.Proofs.Ytnnjlpkjpbbklaa

-- DomSet2: SetAttrs of package dom. Conditions: the tree lies in memory.
namespace Go.Proofs.Ytnnjlpkjpbbklaa
open Go.RowKit

section
variable {w : World} {tb : Nat} {T : DT} {nv : Value} {G : List (Option NG)}

/-- The attributes of a node are a new row. -/
theorem Mut.attrs {S : Nat → Prop} {w1 w' : World} (h : Rep w tb T nv G) (hS : ∀ b ∈ repBlocks tb nv G, S b) {i : Nat} {v : Value} {n : Nd} {al : List (Bytes × Bytes)} {g : NG} (hn : T.at_ i = some n) (hg : G[i]? = some (some g)) (hr : NodeRep w g n) (hb : Below w.heap.size w w1)
    (ho : w1.ownsRow w.heap.size 55 2 v al.length (attrCells al)) (hw : w' = w1.setCell ⟨g.b, 1, none⟩ v) : Mut tb (T.put i (some { n with attrs := al })) S w w' := by
  have hnd := h.node_nodup hg
  have hne := NG.b_ne hnd
  have hz := hb.size
  have hlt := hr.lt
  have hge := own_ge ho
  have hgb := hr.1.lt
  subst hw
  refine Mut.node (g' := ⟨g.b, v, g.kv⟩) h hS hn hg rfl ⟨?_, ?_, ?_⟩ ?_ ?_ fun b hb1 => ?_
  · exact (hr.1.keep hb).set' rfl
  · exact (own_mono ho).same fun b hb1 => Below.heap_setCell _ _ _ _ (fun e => by have := hge b hb1; have e' : b = g.b := e; omega)
  · exact (hr.2.2.keep hb).same fun b hb1 => Below.heap_setCell _ _ _ _ (fun e => hne.2.1 (by rw [hb1]; exact congrArg some e))
  · refine ⟨hb.os, hb.tape, hb.output, by rw [World.size_setCell]; exact hz, fun b hb1 hn' => ?_⟩
    rw [Below.heap_setCell _ _ _ _ (fun e => hn' (by rw [show b = g.b from e]; simp [NG.blocks]))]
    exact hb.block b hb1
  · simp only [NG.blocks, List.nodup_cons, List.mem_append, Option.mem_toList, not_or, List.nodup_append]
    refine ⟨⟨fun e => by have := hge _ e; omega, hne.2.1⟩, ?_, ?_, fun a ha b hb1 e => ?_⟩
    · cases v.ownBlock <;> simp
    · cases g.kv.ownBlock <;> simp
    · have := hge a (by simpa using ha)
      have := (hr.2.2.lt b (by simpa using hb1)).2
      omega
  · simp only [NG.blocks, List.mem_cons, List.mem_append, Option.mem_toList] at hb1
    rcases hb1 with rfl | h1 | h1
    · left; simp [NG.blocks]
    · exact .inr (hge b h1).1
    · left; simp [NG.blocks, h1]

set_option maxHeartbeats 1000000 in
theorem setAttrs_any (h : Rep w tb T nv G) {S : Nat → Prop} (hS : ∀ b ∈ repBlocks tb nv G, S b) (hl : T.nodes.length ≤ 2000) (id : Int) {av : Value} {m : Nat} {al : List (Bytes × Bytes)} (ha : RowR w 2 av m (attrCells al)) (hm : m ≤ 1000000) :
    Calls Try.prog 39 #[.pointer (some ⟨tb, 0, none⟩), I id, av] w fun e w' => e = .returned (I (T.setAttrs id al).1) ∧ Mut tb (T.setAttrs id al).2 S w w' := by
  have hml : m = al.length := by have := ha.1; rw [attrCells_length] at this; omega
  have HE := Lib.hid (cloneAttrR_any ha hm (attrCells_one al))
  have HM0 := Lib.hid (fun (W : World) (hW : Below w.heap.size w W) => Mut.of_below h hS hW)
  obtain ⟨A, cap, rfl⟩ := ha.form
  unfold DT.setAttrs
  cases hn : T.get id with
  | none =>
    have HG := Lib.hid (get_none h hl hn)
    clear h hS hn ha
    go_enter Try.func39, Try.ntmps39
    go_wp2_with ((with_reducible refine (HG.out).mono ?_); rintro e w' ⟨rfl, rfl⟩)
    go_ret
    exact ⟨rfl, HM0.out _ (by repeat (first | exact Below.refl _ _ | assumption | (refine Below.setCell ?_ (by first | (simp; done) | (simp; omega) | omega) _) | (refine Below.alloc ?_ (by first | (simp; done) | (simp; omega) | omega) _) | (refine Below.drew ?_) | (refine Below.drewN' ?_ _)))⟩
  | some n =>
    dsimp only
    obtain ⟨h0, h1, h2⟩ := DT.get_some hn
    obtain ⟨g, hp, hr, hg⟩ := h.ptr_some hn
    have HG : Hid (Calls Try.prog 112 #[.pointer (some ⟨tb, 0, none⟩), .int .i64 id] w fun e w' => e = .returned (.pointer (some ⟨g.b, 0, none⟩)) ∧ w = w') := by
      have := get_any h hl id
      rw [hp] at this
      exact this
    have hgb := hr.1.lt
    have hc := hr.1.cell
    have hf := hr.1.frozen
    have HH := Lib.hid (And.intro h (And.intro hS (And.intro h1 (And.intro hr hg))))
    have HL := Lib.hid hml
    clear h hS hn h1 hr hg hp ha hml
    by_cases ht : n.tag = 0
    · have hd : (n.tag == 0) = true := by simp [ht]
      rw [if_pos ht]
      rw [ht] at hc
      go_enter Try.func39, Try.ntmps39
      go_wp2_with ((with_reducible refine (HG.out).mono ?_); rintro e w' ⟨rfl, rfl⟩)
      go_ret
      exact ⟨rfl, HM0.out _ (by repeat (first | exact Below.refl _ _ | assumption | (refine Below.setCell ?_ (by first | (simp; done) | (simp; omega) | omega) _) | (refine Below.alloc ?_ (by first | (simp; done) | (simp; omega) | omega) _) | (refine Below.drew ?_) | (refine Below.drewN' ?_ _)))⟩
    · have hd : (n.tag == 0) = false := by simp [ht]
      rw [if_neg ht]
      go_enter Try.func39, Try.ntmps39
      go_wp2_with (first | ((with_reducible refine (HG.out).mono ?_); rintro e w' ⟨rfl, rfl⟩) | ((with_reducible refine (HE.out).mono ?_); rintro e w1 ⟨v_w1, rfl, hown, hb⟩; obtain ⟨A_w1, c_w1, rfl⟩ := own_form hown; have HO_w1 := Lib.hid hown; clear hown; have HBb_w1 := Lib.hid hb; have hz_w1 := hb.size; (try simp only [World.size_alloc, World.size_setCell, World.size_drew, size_drewN'] at hz_w1); have hb_w1 : Below w.heap.size w w1 := Below.trans (by exact (by repeat (first | exact Below.refl _ _ | assumption | (refine Below.setCell ?_ (by first | (simp; done) | (simp; omega) | omega) _) | (refine Below.alloc ?_ (by first | (simp; done) | (simp; omega) | omega) _) | (refine Below.drew ?_) | (refine Below.drewN' ?_ _)))) (hb.mono (by first | (simp; done) | (simp; omega) | omega)); obtain ⟨hc_w1, hf_w1⟩ := bcell hb_w1; clear hb))
      go_ret
      exact ⟨rfl, Mut.attrs HH.out.1 HH.out.2.1 HH.out.2.2.1 HH.out.2.2.2.2 HH.out.2.2.2.1 hb_w1 (by rw [← HL.out]; exact HO_w1.out) rfl⟩
end
end Go.Proofs.Ytnnjlpkjpbbklaa
