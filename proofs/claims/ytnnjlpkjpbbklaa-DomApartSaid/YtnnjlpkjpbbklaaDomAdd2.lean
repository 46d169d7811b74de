/-
  add of package dom. Conditions: none.
-/
import Derived.Test.YtnnjlpkjpbbklaaDomAdd
set_option linter.unusedVariables false
set_option linter.unusedSimpArgs false
namespace Go.Proofs.Ytnnjlpkjpbbklaa
open Go.RowKit

/-- What a call that changes a tree leaves: the tree T, in blocks of S and new ones; no other block has turned. -/
def Mut (tb : Nat) (T : DT) (S : Nat → Prop) (w w' : World) : Prop := Tree w' tb T (fun b => S b ∨ w.heap.size ≤ b) ∧ Only S w w'

section
variable {w : World} {tb : Nat} {T : DT} {nv : Value} {G : List (Option NG)}

theorem Row.frozen_own {w : World} {e : TypeId} {size : Nat} {v : Value} {n : Nat} {xs : List Value} (h : Row w e size v n xs) {g : Nat} {m cap : Nat} (hv : v = .slice (some ⟨g, 0, none⟩) m cap) (o : Nat) : w.frozen? ⟨g, o, none⟩ = false := by
  rcases h.2 with ⟨rfl, _⟩ | ⟨g', cap', cur, rfl, _, hg, _⟩
  · cases hv
  · cases hv
    exact At.frozen (cs := cur) hg o
theorem infoNodeP : (Try.prog.info? 134).map (fun i => (i.zero, i.size, i.bytes)) = some (some (.pointer none), 1, 8) := by kernel_rfl

theorem own_mono {w : World} {base : Nat} {e : TypeId} {size : Nat} {v : Value} {n : Nat} {xs : List Value} (h : w.ownsRow base e size v n xs) : Row w e size v n xs := by
  refine ⟨h.1, ?_⟩
  rcases h.2 with hn | ⟨g, cap, cur, rfl, hb, hg, r⟩
  · exact .inl hn
  · exact .inr ⟨g, cap, cur, rfl, Nat.zero_le _, hg, r⟩
theorem own_base {w : World} {base base' : Nat} {e : TypeId} {size : Nat} {v : Value} {n : Nat} {xs : List Value} (h : w.ownsRow base e size v n xs) (hb : base' ≤ base) : w.ownsRow base' e size v n xs := by
  refine ⟨h.1, ?_⟩
  rcases h.2 with hn | ⟨g, cap, cur, rfl, hb, hg, r⟩
  · exact .inl hn
  · exact .inr ⟨g, cap, cur, rfl, by omega, hg, r⟩
theorem own_ge {w : World} {base : Nat} {e : TypeId} {size : Nat} {v : Value} {n : Nat} {xs : List Value} (h : w.ownsRow base e size v n xs) : ∀ b, v.ownBlock = some b → base ≤ b ∧ b < w.heap.size := by
  intro b hb
  rcases h.2 with ⟨rfl, _⟩ | ⟨g, cap, cur, rfl, hb', hg, r⟩
  · cases hb
  · simp [Value.ownBlock] at hb
    subst hb
    exact ⟨hb', (Array.getElem?_eq_some_iff.1 hg).1⟩

/-- One cell of a row of cells is written. -/
theorem Row.setAt {w w' : World} {e : TypeId} {v : Value} {n : Nat} {xs : List Value} (h : Row w e 1 v n xs) {g cap k : Nat} {u : Value} (hv : v = .slice (some ⟨g, 0, none⟩) n cap) (hk : k < n)
    (hw : w'.heap[g]? = (w.setCell ⟨g, k, none⟩ u).heap[g]?) : Row w' e 1 v n (xs.set k u) := by
  rcases h.2 with ⟨rfl, rfl⟩ | ⟨g', cap', cur, rfl, hb, hg, hc, hm, hs, ht⟩
  · cases hv
  · cases hv
    refine ⟨by rw [List.length_set]; exact h.1, .inr ⟨g, cap, cur.setIfInBounds k u, rfl, hb, ?_, hc, hm, by simp [hs], ?_⟩⟩
    · rw [hw]; exact At.set (cs := cur) hg k u
    · rw [← ht]; simp [List.take_set]

theorem slot_at {T : DT} {k : Nat} (h : Rep w tb T nv G) (hk : slotOf G = (k : Int)) : k < G.length ∧ T.at_ k = none := by
  have h0 : k < G.length ∧ G.findIdx Option.isNone = k := by
    unfold slotOf at hk
    split at hk <;> omega
  refine ⟨h0.1, ?_⟩
  cases hn : T.at_ k with
  | none => rfl
  | some m =>
    obtain ⟨g, hg, _⟩ := h.node k m hn
    have h1 := List.findIdx_getElem (xs := G) (p := Option.isNone) (w := by omega)
    have h2 : G[G.findIdx Option.isNone]'(by omega) = some g := by
      have := List.getElem?_eq_some_iff.1 hg
      obtain ⟨_, h3⟩ := this
      simp only [h0.2]; exact h3
    rw [h2] at h1
    cases h1

theorem add_mem (h : Rep w tb T nv G) {g cap k : Nat} (hv : nv = .slice (some ⟨g, 0, none⟩) G.length cap) (hk : k < G.length) (hno : T.at_ k = none)
    {w2 : World} (hb : Below w.heap.size w w2) {tag : Int} {av : Value} {text : Bytes} {al : List (Bytes × Bytes)} (ho : Row w2 55 2 av al.length (attrCells al)) (hav : ∀ b, av.ownBlock = some b → b ∉ repBlocks tb nv G) {cn : Int} (hcn : cn = (T.count : Int) + 1)
    {wF : World} (hF : (((w2.alloc (.cells #[I tag, av, .string text, .slice none 0 0, I (-1)] 139)).setCell ⟨g, k, none⟩ (.pointer (some ⟨w2.heap.size, 0, none⟩))).drew.setCell ⟨tb, 2, none⟩ (I cn)) = wF) :
    ∃ G', Rep wF tb (T.put k (some ⟨tag, al, text, [], none⟩)) nv G' ∧ (∀ b ∈ repBlocks tb nv G', b ∈ repBlocks tb nv G ∨ b = w2.heap.size ∨ av.ownBlock = some b) ∧ Only (fun b => b ∈ repBlocks tb nv G) w2 wF := by
  have hgo : nv.ownBlock = some g := by rw [hv]; rfl
  have hgne : g ≠ tb := h.row_ne hgo
  have htl := h.tree.lt
  have hgl : g < w.heap.size := (h.row.lt g hgo).2
  have hz := hb.size
  have hlen := h.len
  generalize hN : Obj.cells #[I tag, av, .string text, .slice none 0 0, I (-1)] 139 = N at hF
  have hblk : ∀ b, b < w2.heap.size → b ≠ tb → b ≠ g → wF.heap[b]? = w2.heap[b]? := by
    intro b hb1 h1 h2
    rw [← hF, Below.heap_setCell _ _ _ _ h1]
    show ((w2.alloc N).setCell _ _).heap[b]? = _
    rw [Below.heap_setCell _ _ _ _ h2, Below.heap_alloc _ _ _ hb1]
  have hsize : wF.heap.size = w2.heap.size + 1 := by
    rw [← hF, World.size_setCell, World.size_drew, World.size_setCell, World.size_alloc]
  have hcount := T.count_put k (some ⟨tag, al, text, [], none⟩) (by omega)
  rw [hno] at hcount
  simp at hcount
  have htm : tb ∈ repBlocks tb nv G := by simp [repBlocks]
  have hgm : g ∈ repBlocks tb nv G := by simp [repBlocks, hgo]
  have hT : At wF tb 143 #[I T.cap, I T.dep, I ((T.put k (some ⟨tag, al, text, [], none⟩)).count : Int), nv] := by
    rw [← hF]
    refine At.set' ((((h.tree.keep hb).alloc N).far (p := ⟨g, k, none⟩) (fun e => hgne e.symm) _).drew) ?_
    rw [hcount, hcn]; rfl
  have hown2 : ∀ b, av.ownBlock = some b → b < w2.heap.size := fun b hb1 => (ho.lt b hb1).2
  have hNode : NodeRep wF ⟨w2.heap.size, av, .slice none 0 0⟩ ⟨tag, al, text, [], none⟩ := by
    refine ⟨?_, ho.same fun b hb1 => ?_, World.ownsRow_nil _ _ _ _⟩
    · rw [← hF]
      have h0 : At (w2.alloc N) w2.heap.size 139 #[I tag, av, .string text, .slice none 0 0, I (-1)] := by rw [← hN]; exact At.fresh _ _ _ rfl
      exact ((h0.far (p := ⟨g, k, none⟩) (by show _ ≠ g; omega) _).drew).far (p := ⟨tb, 2, none⟩) (by show _ ≠ tb; omega) _
    · exact hblk b (hown2 b hb1) (fun e => hav b hb1 (by rw [e]; exact htm)) (fun e => hav b hb1 (by rw [e]; exact hgm))
  refine ⟨G.set k (some ⟨w2.heap.size, av, .slice none 0 0⟩), ?_, ?_, ?_⟩
  · refine h.setPlace (by omega) hT ?_ ?_ (by intro e; cases e) ?_ ?_ ?_
    · rw [List.map_set]
      refine Row.setAt (w := w2) (h.row.keep hb) hv hk ?_
      rw [← hF, Below.heap_setCell _ _ _ _ hgne]
      show ((w2.alloc N).setCell _ _).heap[g]? = _
      simp only [World.setCell, Array.getElem?_modify]
      rw [Below.heap_alloc _ _ _ (by omega)]
      rfl
    · intro n hn
      cases hn
      exact ⟨_, rfl, hNode⟩
    · intro b hb1 h1 h2
      have := h.lt b hb1
      rw [hblk b (by omega) h1 (fun e => h2 (by rw [hgo, e]))]
      exact hb.block b this
    · show (NG.blocks _).Nodup
      simp only [NG.blocks, List.nodup_cons, List.mem_append, Option.mem_toList]
      refine ⟨?_, ?_⟩
      · rintro (h1 | h1)
        · have := hown2 _ h1; omega
        · cases h1
      · cases av.ownBlock <;> simp [Value.ownBlock]
    · intro b hb1
      simp only [ngBlocks, NG.blocks, List.mem_cons, List.mem_append, Option.mem_toList] at hb1
      rcases hb1 with rfl | h1 | h1
      · intro hm; have := h.lt _ hm; omega
      · exact hav b h1
      · cases h1
  · refine Rep.set_blocks (fun b hb1 => .inl hb1) fun b hb1 => ?_
    simp only [ngBlocks, NG.blocks, List.mem_cons, List.mem_append, Option.mem_toList] at hb1
    rcases hb1 with rfl | h1 | h1
    · exact .inr (.inl rfl)
    · exact .inr (.inr h1)
    · cases h1
  · refine ⟨?_, ?_, ?_, by omega, fun b hb1 hn => ?_⟩
    · rw [← hF]; rfl
    · rw [← hF]; rfl
    · rw [← hF]; rfl
    · exact hblk b hb1 (fun e => hn (by rw [e]; exact htm)) (fun e => hn (by rw [e]; exact hgm))

set_option maxHeartbeats 1000000 in
theorem add_found (h : Rep w tb T nv G) {S : Nat → Prop} (hS : ∀ b ∈ repBlocks tb nv G, S b) (hl : T.nodes.length ≤ 2000) {tag : Int} {av : Value} {text : Bytes} {n : Nat} {al : List (Bytes × Bytes)}
    (ha : RowR w 2 av n (attrCells al)) (hn : n ≤ 1000000) {k : Nat} (hk : slotOf G = (k : Int)) :
    Calls Try.prog 126 #[.pointer (some ⟨tb, 0, none⟩), .agg #[I tag, av, .string text]] w fun e w' => e = .returned (I k) ∧ Mut tb (T.put k (some ⟨tag, al, text, [], none⟩)) S w w' := by
  have hc := h.tree.cell
  have hf := h.tree.frozen
  have htl := h.tree.lt
  have hlen := h.len
  have hcnt : T.count ≤ 2000 := Nat.le_trans List.countP_le_length hl
  have hno := Lib.hid (slot_at h hk).2
  have hnl : n = al.length := by have := ha.1; rw [attrCells_length] at this; omega
  have HNL := Lib.hid hnl
  clear hnl
  have HC := Lib.hid (fun (W : World) (hW : Below w.heap.size w W) => cloneAttrR_any (ha.keep hW) hn (attrCells_one al))
  have HX := Lib.hid (fun (W : World) (hW : Below w.heap.size w W) => indexNil_any (h.keep hW).row (by omega))
  have hkl : k < G.length := by
    unfold slotOf at hk
    split at hk <;> omega
  obtain ⟨g, cap, hv, hcap, hmax, hg, hcell⟩ := h.row.open_ (by omega)
  have hkc := hcell k hkl
  have hgne : g ≠ tb := h.row_ne (by rw [hv]; rfl)
  rw [hk] at HX
  rw [hv] at hc HX
  have HH := Lib.hid (And.intro h (And.intro hS hv))
  clear h hS hv ha hcell
  rw [List.getElem?_map, List.getElem?_eq_getElem hkl, Option.map_some] at hkc
  generalize ngPtr G[k] = pk at hkc
  have HL := Lib.hid (And.intro hlen hkl)
  generalize hcnE : T.count = cn at *
  generalize hGl : G.length = m at *
  have HGl := Lib.hid hGl
  have HcnE := Lib.hid hcnE
  clear hcnE
  clear hGl hlen hl
  go_enter Try.func126, Try.ntmps126
  go_wp2_with (first | ((with_reducible refine (HC.out _ (by repeat (first | exact Below.refl _ _ | assumption | (refine Below.setCell ?_ (by first | (simp; done) | (simp; omega) | omega) _) | (refine Below.alloc ?_ (by first | (simp; done) | (simp; omega) | omega) _) | (refine Below.drew ?_) | (refine Below.drewN' ?_ _)))).mono ?_); rintro e w1 ⟨v_w1, rfl, hown, hb⟩; obtain ⟨A_w1, c_w1, rfl⟩ := own_form hown; have HO_w1 := Lib.hid hown; clear hown; have HBb_w1 := Lib.hid hb; have hz_w1 := hb.size; (try simp only [World.size_alloc, World.size_setCell, World.size_drew, size_drewN'] at hz_w1); have k0_w1 : At w1 (w.heap.size) 137 #[I tag, av, .string text] := At.keep (by (repeat' (first | (with_reducible assumption) | (with_reducible refine unhid ?_; with_reducible assumption) | (with_reducible refine At.fresh _ _ _ (by first | (simp; done) | (simp; omega) | omega)) | (with_reducible apply At.set') | (with_reducible apply At.far) | (with_reducible apply At.alloc) | (with_reducible apply At.drew) | (with_reducible apply At.drewN) | exact (rfl : Array.setIfInBounds _ _ _ = _) | (refine Ne.symm ?_; simp; done) | (show _ ≠ _; simp; done) | (show _ ≠ _; simp; omega) | (show _ ≠ _; omega))); (first | done | fail)) hb; have k0_w1c := At.cell k0_w1; have k0_w1f := At.frozen k0_w1; have k0_w1h := Lib.hid k0_w1; clear k0_w1; have hb_w1 : Below w.heap.size w w1 := Below.trans (by exact (by repeat (first | exact Below.refl _ _ | assumption | (refine Below.setCell ?_ (by first | (simp; done) | (simp; omega) | omega) _) | (refine Below.alloc ?_ (by first | (simp; done) | (simp; omega) | omega) _) | (refine Below.drew ?_) | (refine Below.drewN' ?_ _)))) (hb.mono (by first | (simp; done) | (simp; omega) | omega)); obtain ⟨hc_w1, hf_w1⟩ := bcell hb_w1; clear hb) | ((with_reducible refine (HX.out _ (by repeat (first | exact Below.refl _ _ | assumption | (refine Below.setCell ?_ (by first | (simp; done) | (simp; omega) | omega) _) | (refine Below.alloc ?_ (by first | (simp; done) | (simp; omega) | omega) _) | (refine Below.drew ?_) | (refine Below.drewN' ?_ _)))).mono ?_); rintro e w' ⟨rfl, rfl⟩))
  have hgf := fun o => HH.out.1.row.frozen_own HH.out.2.2 o
  have hdf : decide ((k : Int) < 0) = false := by simp
  generalize hW2 : w1.setCell ⟨w.heap.size, 1, none⟩ (.slice A_w1 n c_w1) = w2
  have kp : At w2 w.heap.size 137 #[I tag, .slice A_w1 n c_w1, .string text] := by rw [← hW2]; exact k0_w1h.out.set' rfl
  have kpc := kp.cell
  have hb2 : Below w.heap.size w w2 := by rw [← hW2]; exact Below.setCell hb_w1 (by simp) _
  obtain ⟨hc2, hf2⟩ := bcell hb2
  have hz2 := hb2.size
  have HW2 := Lib.hid (And.intro hW2 (And.intro hb2 kp))
  clear hW2 hb2 kp
  clear k0_w1c k0_w1f hc_w1 hf_w1 hb_w1
  go_region
  go_wp2_with fail
  go_ret
  refine ⟨rfl, ?_⟩
  have hz0 := HW2.out.2.1.size
  have hown : w2.ownsRow w.heap.size 55 2 (.slice A_w1 n c_w1) n (attrCells al) := by
    rw [← HW2.out.1]
    exact own_base (ownsRow_setCell_below HO_w1.out (by simp) _) (by simp)
  have hge := own_ge hown
  obtain ⟨G', hR, hB, hO⟩ := add_mem HH.out.1 (by rw [HH.out.2.2, HGl.out]) (by rw [HGl.out]; exact hkl) hno.out HW2.out.2.1 (av := .slice A_w1 n c_w1) (text := text) (tag := tag) (al := al) (by rw [← HNL.out]; exact own_mono hown) (fun b hb1 hm => by have := hge b hb1; have := HH.out.1.lt b hm; omega) (cn := (cn : Int) + 1) (by rw [HcnE.out]) rfl
  refine ⟨⟨_, G', hR, fun b hb1 => ?_⟩, ?_⟩
  · rcases hB b hb1 with h1 | h1 | h1
    · exact .inl (HH.out.2.1 b h1)
    · right; omega
    · exact .inr (hge b h1).1
  · exact (Only.of_below HW2.out.2.1).trans hO fun i _ hi => HH.out.2.1 i hi
end
end Go.Proofs.Ytnnjlpkjpbbklaa
