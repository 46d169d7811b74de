/-
  add of package dom, where all places hold a node; both. Conditions: none.
-/
import Derived.Test.YtnnjlpkjpbbklaaDomAdd2
set_option linter.unusedVariables false
set_option linter.unusedSimpArgs false
namespace Go.Proofs.Ytnnjlpkjpbbklaa
open Go.RowKit

theorem At.grown {w w' : World} {b : Nat} {t : TypeId} {cs : Array Value} {row : Option Nat} (h : At w b t cs) (hg : w.grownBy w' row) (hne : row ≠ some b) : At w' b t cs :=
  (hg.block b h.lt (fun e => hne e.symm)).trans h

section
variable {w : World} {tb : Nat} {T : DT} {nv : Value} {G : List (Option NG)}

set_option maxHeartbeats 1000000 in
theorem add_full (h : Rep w tb T nv G) {S : Nat → Prop} (hS : ∀ b ∈ repBlocks tb nv G, S b) (hl : T.nodes.length ≤ 2000) {tag : Int} {av : Value} {text : Bytes} {n : Nat} {al : List (Bytes × Bytes)}
    (ha : RowR w 2 av n (attrCells al)) (hn : n ≤ 1000000) (hk : slotOf G = -1) :
    Calls Try.prog 126 #[.pointer (some ⟨tb, 0, none⟩), .agg #[I tag, av, .string text]] w fun e w' => e = .returned (I (T.nodes.length : Nat)) ∧ Mut tb { T with nodes := T.nodes ++ [some ⟨tag, al, text, [], none⟩] } S w w' := by
  have hc := h.tree.cell
  have hf := h.tree.frozen
  have htl := h.tree.lt
  have hlen := h.len
  have hcnt : T.count ≤ 2000 := Nat.le_trans List.countP_le_length hl
  have hnl : n = al.length := by have := ha.1; rw [attrCells_length] at this; omega
  have HNL := Lib.hid hnl
  clear hnl
  have HC := Lib.hid (fun (W : World) (hW : Below w.heap.size w W) => cloneAttrR_any (ha.keep hW) hn (attrCells_one al))
  have HX := Lib.hid (fun (W : World) (hW : Below w.heap.size w W) => indexNil_any (h.keep hW).row (by omega))
  obtain ⟨A, cap, hv, hcap, hmax, hA⟩ := h.row.form
  obtain ⟨i0, hi, hi0, hi1, hi2⟩ := info_parts infoNodeP
  rw [hk] at HX
  rw [hv] at hc HX
  have HH := Lib.hid (And.intro h (And.intro hS hv))
  clear h hS hv ha hA
  have HL := Lib.hid hlen
  generalize hcnE : T.count = cn at *
  have HcnE := Lib.hid hcnE
  clear hcnE
  rw [← hlen] at hl ⊢
  generalize hGl : G.length = m at *
  have HGl := Lib.hid hGl
  clear hGl hlen
  go_enter Try.func126, Try.ntmps126
  go_upto_region 5 with (first | ((with_reducible refine (HC.out _ (by repeat (first | exact Below.refl _ _ | assumption | (refine Below.setCell ?_ (by first | (simp; done) | (simp; omega) | omega) _) | (refine Below.alloc ?_ (by first | (simp; done) | (simp; omega) | omega) _) | (refine Below.drew ?_) | (refine Below.drewN' ?_ _)))).mono ?_); rintro e w1 ⟨v_w1, rfl, hown, hb⟩; obtain ⟨A_w1, c_w1, rfl⟩ := own_form hown; have HO_w1 := Lib.hid hown; clear hown; have HBb_w1 := Lib.hid hb; have hz_w1 := hb.size; (try simp only [World.size_alloc, World.size_setCell, World.size_drew, size_drewN'] at hz_w1); have k0_w1 : At w1 (w.heap.size) 137 #[I tag, av, .string text] := At.keep (by (repeat' (first | (with_reducible assumption) | (with_reducible refine unhid ?_; with_reducible assumption) | (with_reducible refine At.fresh _ _ _ (by first | (simp; done) | (simp; omega) | omega)) | (with_reducible apply At.set') | (with_reducible apply At.far) | (with_reducible apply At.alloc) | (with_reducible apply At.drew) | (with_reducible apply At.drewN) | exact (rfl : Array.setIfInBounds _ _ _ = _) | (refine Ne.symm ?_; simp; done) | (show _ ≠ _; simp; done) | (show _ ≠ _; simp; omega) | (show _ ≠ _; omega))); (first | done | fail)) hb; have k0_w1c := At.cell k0_w1; have k0_w1f := At.frozen k0_w1; have k0_w1h := Lib.hid k0_w1; clear k0_w1; have hb_w1 : Below w.heap.size w w1 := Below.trans (by exact (by repeat (first | exact Below.refl _ _ | assumption | (refine Below.setCell ?_ (by first | (simp; done) | (simp; omega) | omega) _) | (refine Below.alloc ?_ (by first | (simp; done) | (simp; omega) | omega) _) | (refine Below.drew ?_) | (refine Below.drewN' ?_ _)))) (hb.mono (by first | (simp; done) | (simp; omega) | omega)); obtain ⟨hc_w1, hf_w1⟩ := bcell hb_w1; clear hb) | ((with_reducible refine (HX.out _ (by repeat (first | exact Below.refl _ _ | assumption | (refine Below.setCell ?_ (by first | (simp; done) | (simp; omega) | omega) _) | (refine Below.alloc ?_ (by first | (simp; done) | (simp; omega) | omega) _) | (refine Below.drew ?_) | (refine Below.drewN' ?_ _)))).mono ?_); rintro e w' ⟨rfl, rfl⟩))
  generalize hW2 : w1.setCell ⟨w.heap.size, 1, none⟩ (.slice A_w1 n c_w1) = w2
  have kp : At w2 w.heap.size 137 #[I tag, .slice A_w1 n c_w1, .string text] := by rw [← hW2]; exact k0_w1h.out.set' rfl
  have hb2 : Below w.heap.size w w2 := by rw [← hW2]; exact Below.setCell hb_w1 (by simp) _
  have hown2 : w2.ownsRow w.heap.size 55 2 (.slice A_w1 n c_w1) n (attrCells al) := by
    rw [← hW2]
    exact own_base (ownsRow_setCell_below HO_w1.out (by simp) _) (by simp)
  have kt := HH.out.1.tree.keep hb2
  rw [HH.out.2.2, HcnE.out] at kt
  have krow := HH.out.1.row.keep hb2
  rw [HH.out.2.2, HGl.out] at krow
  have HW2 := Lib.hid (And.intro hb2 (And.intro kp (And.intro kt (And.intro krow hown2))))
  have hz2 := hb2.size
  have ktc := kt.cell
  have ktf := kt.frozen
  clear hW2 hb2 kp kt krow hown2 k0_w1c k0_w1f k0_w1h hc_w1 hf_w1 hb_w1 HO_w1 hc hf
  go_wp2_with (at_builtin; refine wpList_append_own_at _ rfl (.tmp 26) (.tmp 27) 141 rfl 0 134 i0 (.pointer none) 1 8 Try.underlying141 hi hi0 hi1 hi2 rfl (by decide) (.slice A m cap) m (G.map ngPtr) rfl ?own ⟨w2.heap.size, 0, none⟩ 1 1 [.pointer none] rfl ?c1 ?c2 ?c3 ?c4 ?c5 ?c6 ?grow)
  case own => exact HW2.out.2.2.2.1.keep ((Below.refl _ _).alloc (Nat.le_refl _) _)
  case c1 => rfl
  case c2 => exact cell_one_new _ _ _
  case c3 => intro u hu; simp at hu; rw [hu]; rfl
  case c4 => unfold maxLen; omega
  case c5 => omega
  case c6 => exact Nat.zero_le _
  case grow =>
    intro v' w4 hown4 hgrow hnil hwhere
    obtain ⟨g', cap', rfl, hcap', hmax', hg', hcell'⟩ := Row.open_ (n := m + 1) hown4 (by omega)
    obtain ⟨hb2, kp, kt, krow, hown2⟩ := HW2.out
    have hnvo : nv.ownBlock = (Value.slice A m cap).ownBlock := by rw [HH.out.2.2]
    have hrowlt : ∀ b, (Value.slice A m cap).ownBlock = some b → b < w.heap.size ∧ b ≠ tb := fun b hb1 => ⟨(HH.out.1.row.lt b (by rw [hnvo, hb1])).2, HH.out.1.row_ne (by rw [hnvo, hb1])⟩
    have kt4 := (kt.alloc (.cells #[.pointer none] 134)).grown hgrow (fun e => (hrowlt _ e).2 rfl)
    have kp4 := (kp.alloc (.cells #[.pointer none] 134)).grown hgrow (fun e => by have := (hrowlt _ e).1; omega)
    have hz4 := hgrow.size
    rw [World.size_alloc] at hz4
    have hge2 := own_ge hown2
    have hblk4 : ∀ b, b < w2.heap.size → (Value.slice A m cap).ownBlock ≠ some b → w4.heap[b]? = w2.heap[b]? := fun b hb1 hne => (hgrow.block b (by rw [World.size_alloc]; omega) (fun e => hne e.symm)).trans (Below.heap_alloc _ _ _ hb1)
    have hrow4 : Row w4 55 2 (.slice A_w1 n c_w1) n (attrCells al) := (own_mono hown2).same fun b hb1 => by
      have := hge2 b hb1
      exact hblk4 b this.2 (fun e => by have := (hrowlt _ e).1; omega)
    have hg'w : g' < w.heap.size ∧ (Value.slice A m cap).ownBlock = some g' ∨ w2.heap.size < g' := by
      rcases hwhere with e | e
      · left
        have e' : (Value.slice A m cap).ownBlock = some g' := by rw [← e]; rfl
        exact ⟨(hrowlt g' e').1, e'⟩
      · right
        have e' : g' = w2.heap.size + 1 := by
          simp only [Value.ownBlock, World.size_alloc] at e
          exact Option.some.inj e
        omega
    have hg't : g' ≠ tb := by
      rcases hg'w with h1 | h1
      · exact (hrowlt g' h1.2).2
      · omega
    generalize hW5 : w4.setCell ⟨tb, 3, none⟩ (.slice (some ⟨g', 0, none⟩) (m + 1) cap') = w5
    have kt5 : At w5 tb 143 #[I T.cap, I T.dep, I (cn : Int), .slice (some ⟨g', 0, none⟩) (m + 1) cap'] := by rw [← hW5]; exact kt4.set' rfl
    have hblk5 : ∀ b, b ≠ tb → w5.heap[b]? = w4.heap[b]? := fun b hb1 => by rw [← hW5]; exact Below.heap_setCell _ _ _ _ hb1
    have hz5 : w5.heap.size = w4.heap.size := by rw [← hW5]; exact World.size_setCell _ _ _
    have kp5 : At w5 w.heap.size 137 #[I tag, .slice A_w1 n c_w1, .string text] := (hblk5 _ (by omega)).trans kp4
    have hrow5 : Row w5 134 1 (.slice (some ⟨g', 0, none⟩) (m + 1) cap') (m + 1) (G.map ngPtr ++ [.pointer none]) := Row.same hown4 fun b hb1 => by
      simp [Value.ownBlock] at hb1
      exact hblk5 b (by rw [← hb1]; exact hg't)
    have hrowA5 : Row w5 55 2 (.slice A_w1 n c_w1) n (attrCells al) := hrow4.same fun b hb1 => hblk5 b (by have := hge2 b hb1; omega)
    have hR5 : Rep w5 tb { T with nodes := T.nodes ++ [none] } (.slice (some ⟨g', 0, none⟩) (m + 1) cap') (G ++ [none]) := by
      refine HH.out.1.grow ?_ ?_ ?_ ?_
      · rw [HcnE.out]; exact kt5
      · rw [HGl.out]; exact hrow5
      · intro b hb1 h1 h2
        have := HH.out.1.lt b hb1
        rw [hblk5 b h1, hblk4 b (by omega) (by rw [← hnvo]; exact h2)]
        exact hb2.block b this
      · intro b hb1
        simp [Value.ownBlock] at hb1
        subst hb1
        rcases hg'w with h1 | h1
        · left; rw [hnvo]; exact h1.2
        · right; omega
    have hcell5 : w5.cell? ⟨g', m, none⟩ = some (.pointer none) := by
      obtain ⟨g2, cap2, hv2, _, _, _, hc2⟩ := hrow5.open_ (by omega)
      cases hv2
      rw [hc2 m (by omega)]
      simp [List.getElem?_append, HGl.out]
    have hfro5 := hrow5.frozen_own rfl
    have kpc := kp5.cell
    have ktc5 := kt5.cell
    have ktf5 := kt5.frozen
    have kt4c := kt4.cell
    have kt4f := kt4.frozen
    have HW5 := Lib.hid (And.intro hR5 (And.intro hrowA5 (And.intro hge2 (And.intro hb2 (And.intro hblk4 (And.intro hblk5 hgrow))))))
    have HG' := Lib.hid hg'w
    have hgl5 : g' < w5.heap.size := by omega
    have hz2 := hb2.size
    have Hrl := Lib.hid (And.intro hrowlt hnvo)
    clear kp kt krow hown2 kt4 kp4 hrow4 hrow5 hrowA5 hR5 hge2 hb2 hblk4 hblk5 hgrow hown4 hcell' hnil hwhere hg'w HW2 kp5 kt5 ktc ktf hrowlt hnvo
    have HS := Lib.hid hW5
    go_upto_region 6 with fail
    clear hW5
    go_region
    go_wp2_with fail
    go_ret
    refine ⟨rfl, ?_⟩
    obtain ⟨hR5, hrowA5, hge2, hb2, hblk4, hblk5, hgrow⟩ := HW5.out
    obtain ⟨hrowlt, hnvo⟩ := Hrl.out
    have hput : ({ T with nodes := T.nodes ++ [none] } : DT).put m (some ⟨tag, al, text, [], none⟩) = { T with nodes := T.nodes ++ [some ⟨tag, al, text, [], none⟩] } := by
      have : m = T.nodes.length := HL.out
      simp [DT.put, this]
    have hbl : ∀ b ∈ repBlocks tb (.slice (some ⟨g', 0, none⟩) (m + 1) cap') (G ++ [none]), b ∈ repBlocks tb nv G ∨ w2.heap.size < b := by
      intro b hb1
      simp only [repBlocks, List.mem_cons, List.mem_append, Option.mem_toList, List.flatMap_append, List.flatMap_cons, List.flatMap_nil, ngBlocks, List.append_nil] at hb1
      rcases hb1 with rfl | h1 | h1
      · left; simp [repBlocks]
      · simp [Value.ownBlock] at h1
        subst h1
        rcases HG'.out with h2 | h2
        · left; simp [repBlocks, hnvo, h2.2]
        · exact .inr h2
      · left; simp only [repBlocks, List.mem_cons, List.mem_append]; exact .inr (.inr h1)
    have eF : (((w5.alloc (.cells #[I tag, .slice A_w1 n c_w1, .string text, .slice none 0 0, I (-1)] 139)).setCell ⟨g', m, none⟩ (.pointer (some ⟨w5.heap.size, 0, none⟩))).drew.setCell ⟨tb, 2, none⟩ (I ((cn : Int) + 1))) = (((w5.setCell ⟨g', m, none⟩ (.pointer (some ⟨w4.heap.size, 0, none⟩))).alloc (.cells #[I tag, .slice A_w1 n c_w1, .string text, .slice none 0 0, I (-1)] 139)).setCell ⟨tb, 2, none⟩ (I ((cn : Int) + 1))).drew := by
      rw [World.setCell_alloc_past (hn := hgl5), World.setCell_drew, hz5]
    obtain ⟨G', hR, hB, hO⟩ := add_mem hR5 (g := g') (cap := cap') (k := m) (by simp [HGl.out]) (by simp [HGl.out]) (by simp [DT.at_, show m = T.nodes.length from HL.out]) (Below.refl _ w5) (av := .slice A_w1 n c_w1) (text := text) (tag := tag) (al := al) (by rw [← HNL.out]; exact hrowA5)
      (fun b hb1 hm => by
        have := hge2 b hb1
        rcases hbl b hm with h1 | h1
        · have := HH.out.1.lt b h1; omega
        · omega) (cn := (cn : Int) + 1) (by
          rw [← HcnE.out]
          simp [DT.count]) eF
    rw [hput] at hR
    have hS := HH.out.2.1
    refine ⟨⟨_, G', hR, fun b hb1 => ?_⟩, ?_⟩
    · rcases hB b hb1 with h1 | h1 | h1
      · rcases hbl b h1 with h2 | h2
        · exact .inl (hS b h2)
        · right; omega
      · right; omega
      · exact .inr (hge2 b h1).1
    · have h5 : Only S w w5 := by
        rw [← HS.out]
        refine ⟨hgrow.os.trans hb2.os, hgrow.tape.trans hb2.tape, hgrow.output.trans hb2.output, by rw [World.size_setCell]; omega, fun b hb1 hn => ?_⟩
        have h1 : b ≠ tb := fun e => hn (by rw [e]; exact hS _ (by simp [repBlocks]))
        have h2 : (Value.slice A m cap).ownBlock ≠ some b := fun e => hn (hS _ (by simp [repBlocks, hnvo, e]))
        rw [Below.heap_setCell _ _ _ _ h1, hblk4 b (by omega) h2]
        exact hb2.block b hb1
      refine h5.trans hO fun i hi hm => ?_
      rcases hbl i hm with h1 | h1
      · exact hS i h1
      · omega

theorem slot_eq (h : Rep w tb T nv G) : T.slot = G.findIdx Option.isNone := by
  have hlen := h.len
  unfold DT.slot
  have key : ∀ i (h1 : i < T.nodes.length) (h2 : i < G.length), (T.nodes[i]).isNone = (G[i]).isNone := by
    intro i h1 h2
    have ha : T.at_ i = T.nodes[i] := by simp [DT.at_, List.getElem?_eq_getElem h1]
    cases hn : T.nodes[i] with
    | none =>
      have := h.none_ i h2 (by rw [ha, hn])
      rw [List.getElem?_eq_getElem h2] at this
      simp [Option.some.inj this]
    | some n =>
      obtain ⟨g, hg, _⟩ := h.node i n (by rw [ha, hn])
      rw [List.getElem?_eq_getElem h2] at hg
      simp [Option.some.inj hg]
  clear h
  generalize T.nodes = l at *
  induction l generalizing G with
  | nil =>
    cases G with
    | nil => rfl
    | cons _ _ => simp at hlen
  | cons a l ih =>
    cases G with
    | nil => simp at hlen
    | cons b G =>
      have h0 := key 0 (by simp) (by simp)
      simp at h0
      rw [List.findIdx_cons, List.findIdx_cons, h0]
      rw [ih (G := G) (by simpa using hlen) (fun i h1 h2 => by
        have := key (i + 1) (by simpa using h1) (by simpa using h2)
        simpa using this)]

theorem add_any (h : Rep w tb T nv G) {S : Nat → Prop} (hS : ∀ b ∈ repBlocks tb nv G, S b) (hl : T.nodes.length ≤ 2000) {tag : Int} {av : Value} {text : Bytes} {n : Nat} {al : List (Bytes × Bytes)}
    (ha : RowR w 2 av n (attrCells al)) (hn : n ≤ 1000000) :
    Calls Try.prog 126 #[.pointer (some ⟨tb, 0, none⟩), .agg #[I tag, av, .string text]] w fun e w' => e = .returned (I (T.slot : Nat)) ∧ Mut tb (T.addAt ⟨tag, al, text, [], none⟩) S w w' := by
  have hlen := h.len
  have hs := slot_eq h
  by_cases hk : G.findIdx Option.isNone < G.length
  · have e : slotOf G = (T.slot : Int) := by rw [slotOf, if_pos hk, hs]
    have e2 : T.addAt ⟨tag, al, text, [], none⟩ = T.put T.slot (some ⟨tag, al, text, [], none⟩) := by rw [DT.addAt, if_pos (by omega)]
    rw [e2]
    exact add_found h hS hl ha hn e
  · have e : slotOf G = -1 := by rw [slotOf, if_neg hk]
    have hle : T.slot = T.nodes.length := by
      have : G.findIdx Option.isNone ≤ G.length := List.findIdx_le_length
      omega
    have e2 : T.addAt ⟨tag, al, text, [], none⟩ = { T with nodes := T.nodes ++ [some ⟨tag, al, text, [], none⟩] } := by rw [DT.addAt, if_neg (by omega)]
    rw [e2, hle]
    exact add_full h hS hl ha hn e
end
end Go.Proofs.Ytnnjlpkjpbbklaa
