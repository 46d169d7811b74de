/-
  Copy of package dom. Conditions: the tree lies in memory; no node has more than 200 attributes or more kids than there are nodes.
-/
import Derived.Test.YtnnjlpkjpbbklaaDomPlain
import Derived.Test.YtnnjlpkjpbbklaaDomDrop
set_option linter.unusedVariables false
set_option linter.unusedSimpArgs false
namespace Go.Proofs.Ytnnjlpkjpbbklaa
open Go.RowKit

/-- Where the loop of Copy stands. -/
structure CopySt (W0 : World) (cb : Nat) (T : DT) (j : Nat) (G : List (Option NG)) (A2 : Option Addr) (c2 : Nat) (wr : World) : Prop where
  tree : At wr cb 143 #[I T.cap, I T.dep, I (T.count : Int), .slice A2 j c2]
  len : G.length = j
  row : wr.ownsRow W0.heap.size 134 1 (.slice A2 j c2) j (G.map ngPtr)
  node : ∀ i n, i < j → T.at_ i = some n → ∃ g, G[i]? = some (some g) ∧ NodeRep wr g n
  none_ : ∀ i, i < j → T.at_ i = none → G[i]? = some none
  nodup : (repBlocks cb (.slice A2 j c2) G).Nodup
  ge : ∀ b ∈ repBlocks cb (.slice A2 j c2) G, W0.heap.size ≤ b ∧ b < wr.heap.size
  below : Below W0.heap.size W0 wr

section
variable {W0 wr w2 w3 : World} {cb : Nat} {T : DT} {j : Nat} {G : List (Option NG)} {A2 : Option Addr} {c2 : Nat}

theorem CopySt.push (h : CopySt W0 cb T j G A2 c2 wr) (hb : Below wr.heap.size wr w2) {o : Option NG} (hno : T.at_ j = none → o = none) (hso : ∀ n, T.at_ j = some n → ∃ g, o = some g ∧ NodeRep w2 g n) (hnd : (ngBlocks o).Nodup) (hge : ∀ b ∈ ngBlocks o, wr.heap.size ≤ b ∧ b < w2.heap.size)
    {obj : Obj} {g cap : Nat} (hown : w3.ownsRow W0.heap.size 134 1 (.slice (some ⟨g, 0, none⟩) (j + 1) cap) (j + 1) (G.map ngPtr ++ [ngPtr o])) (hg : (w2.alloc obj).grownBy w3 (Value.slice A2 j c2).ownBlock) (hlie : (Value.slice A2 j c2).ownBlock = some g ∨ g = w2.heap.size + 1) :
    CopySt W0 cb T (j + 1) (G ++ [o]) (some ⟨g, 0, none⟩) cap (w3.setCell ⟨cb, 3, none⟩ (.slice (some ⟨g, 0, none⟩) (j + 1) cap)) := by
  have hz := hb.size
  have hz3 := hg.size
  rw [World.size_alloc] at hz3
  have hbz := h.below.size
  have hlt3 := (own_ge hown g rfl).2
  have hcb : cb ∈ repBlocks cb (.slice A2 j c2) G := by simp [repBlocks]
  have hcbl := (h.ge cb hcb).2
  have hblk : ∀ b, b < wr.heap.size → (Value.slice A2 j c2).ownBlock ≠ some b → w3.heap[b]? = wr.heap[b]? := by
    intro b hb1 hne
    rw [hg.block b (by rw [World.size_alloc]; omega) (fun e => hne e.symm), Below.heap_alloc _ _ _ (by omega)]
    exact hb.block b hb1
  have hblk2 : ∀ b, wr.heap.size ≤ b → b < w2.heap.size → w3.heap[b]? = w2.heap[b]? := by
    intro b hb1 hb2
    rw [hg.block b (by rw [World.size_alloc]; omega) (fun e => by have := (h.ge b (by simp [repBlocks, ← e])).2; omega), Below.heap_alloc _ _ _ (by omega)]
  have hnd0 := h.nodup
  rw [repBlocks_eq, List.nodup_append] at hnd0
  obtain ⟨n1, n2, n3⟩ := hnd0
  have hrow : ∀ b, (Value.slice A2 j c2).ownBlock = some b → b ≠ cb := by
    intro b hb1 e
    subst e
    rw [List.nodup_cons] at n1
    exact n1.1 (by simp [hb1])
  have hnode : ∀ b ∈ G.flatMap ngBlocks, b ≠ cb ∧ (Value.slice A2 j c2).ownBlock ≠ some b := by
    intro b hb1
    exact ⟨fun e => n3 cb (by simp) b hb1 e.symm, fun e => n3 b (by simp [e]) b hb1 rfl⟩
  have hgcb : g ≠ cb := by
    rcases hlie with e | e
    · exact hrow g e
    · omega
  have hgG : ∀ b ∈ G.flatMap ngBlocks, b ≠ g := by
    intro b hb1 e
    subst e
    rcases hlie with e | e
    · exact (hnode b hb1).2 e
    · have := (h.ge b (by rw [repBlocks_eq]; exact List.mem_append.2 (.inr hb1))).2
      omega
  have hkeep : ∀ b ∈ G.flatMap ngBlocks, (w3.setCell ⟨cb, 3, none⟩ (.slice (some ⟨g, 0, none⟩) (j + 1) cap)).heap[b]? = wr.heap[b]? := by
    intro b hb1
    rw [Below.heap_setCell _ _ _ _ (hnode b hb1).1]
    exact hblk b (h.ge b (by rw [repBlocks_eq]; exact List.mem_append.2 (.inr hb1))).2 (hnode b hb1).2
  have hrb : repBlocks cb (.slice (some ⟨g, 0, none⟩) (j + 1) cap) (G ++ [o]) = cb :: g :: (G.flatMap ngBlocks ++ ngBlocks o) := by
    simp [repBlocks, Value.ownBlock]
  refine ⟨?_, by rw [List.length_append, h.len]; rfl, ?_, ?_, ?_, ?_, ?_, ?_⟩
  · exact At.set' (cs := #[I T.cap, I T.dep, I (T.count : Int), .slice A2 j c2]) ((hblk cb hcbl (fun e => hrow cb e rfl)).trans h.tree) rfl
  · rw [List.map_append]
    exact own_same hown fun b hb1 => by
      simp [Value.ownBlock] at hb1
      subst hb1
      exact Below.heap_setCell _ _ _ _ hgcb
  · intro i n hi hn
    by_cases e : i < j
    · obtain ⟨g', hg', hr'⟩ := h.node i n e hn
      refine ⟨g', by rw [List.getElem?_append_left (by rw [h.len]; exact e)]; exact hg', hr'.same fun b hb1 => hkeep b (List.mem_flatMap.2 ⟨some g', List.mem_of_getElem? hg', hb1⟩)⟩
    · have e' : i = j := by omega
      subst e'
      obtain ⟨g', rfl, hr'⟩ := hso n hn
      refine ⟨g', by rw [List.getElem?_append_right (by rw [h.len]; exact Nat.le_refl _), h.len]; simp, hr'.same fun b hb1 => ?_⟩
      have h1 := hge b hb1
      rw [Below.heap_setCell _ _ _ _ (show b ≠ cb by omega)]
      exact hblk2 b h1.1 h1.2
  · intro i hi hn
    by_cases e : i < j
    · rw [List.getElem?_append_left (by rw [h.len]; exact e)]; exact h.none_ i e hn
    · have e' : i = j := by omega
      subst e'
      rw [List.getElem?_append_right (by rw [h.len]; exact Nat.le_refl _), h.len, hno hn]; simp
  · rw [hrb, List.nodup_cons, List.nodup_cons]
    refine ⟨?_, ?_, ?_⟩
    · simp only [List.mem_cons, List.mem_append, not_or]
      refine ⟨fun e => hgcb e.symm, fun e => (hnode cb e).1 rfl, fun e => by have := (hge cb e).1; omega⟩
    · simp only [List.mem_append, not_or]
      refine ⟨fun e => hgG g e rfl, fun e => ?_⟩
      have h1 := hge g e
      rcases hlie with e1 | e1
      · have := (h.ge g (by simp [repBlocks, e1])).2; omega
      · omega
    · rw [List.nodup_append]
      refine ⟨n2, hnd, fun a ha b hb1 e => ?_⟩
      subst e
      have := (h.ge a (by rw [repBlocks_eq]; exact List.mem_append.2 (.inr ha))).2
      have := (hge a hb1).1
      omega
  · intro b hb1
    rw [hrb] at hb1
    simp only [List.mem_cons, List.mem_append] at hb1
    rw [World.size_setCell]
    rcases hb1 with rfl | rfl | h1 | h1
    · have := h.ge _ hcb; omega
    · have := (own_ge hown _ rfl).1; exact ⟨this, hlt3⟩
    · have := h.ge b (by rw [repBlocks_eq]; exact List.mem_append.2 (.inr h1)); omega
    · have := hge b h1; omega
  · refine Below.setCell ?_ (h.ge cb hcb).1 _
    refine ⟨hg.os.trans (hb.os.trans h.below.os), hg.tape.trans (hb.tape.trans h.below.tape), hg.output.trans (hb.output.trans h.below.output), by omega, fun b hb1 => ?_⟩
    rw [hblk b (by omega) (fun e => by have := (own_ge h.row b e).1; omega)]
    exact h.below.block b hb1

theorem CopySt.done (h : CopySt W0 cb T T.nodes.length G A2 c2 wr) : Tree wr cb T (fun b => W0.heap.size ≤ b) := by
  refine ⟨_, G, ⟨h.tree, h.len, ?_, fun i n hn => h.node i n (DT.at_lt hn) hn, fun i hi hn => h.none_ i (by rw [← h.len]; exact hi) hn, h.nodup⟩, fun b hb => (h.ge b hb).1⟩
  rw [h.len]; exact own_mono h.row
end

section
variable {w : World} {tb : Nat} {T : DT} {nv : Value} {G : List (Option NG)}

theorem NodeRep.keep' {w w' : World} {g : NG} {n : Nd} (h : NodeRep w g n) {B : Nat} (hb : Below B w w') (hB : ∀ b ∈ g.blocks, b < B) : NodeRep w' g n := h.same fun b hb1 => hb.block b (hB b hb1)
theorem cells13 {w' : World} {b : Nat} {t : TypeId} {c0 c1 c2 c3 c4 : Value} (h : At w' b t #[c0, c1, c2, c3, c4]) : w'.cell? ⟨b, 1, none⟩ = some c1 ∧ w'.cell? ⟨b, 3, none⟩ = some c3 := ⟨h.cell 1, h.cell 3⟩

set_option maxRecDepth 100000 in
set_option maxHeartbeats 2000000 in
theorem copy_any (h : Rep w tb T nv G) (hW : T.WF) (hA : T.AB) :
    Calls Try.prog 35 #[.pointer (some ⟨tb, 0, none⟩)] w fun e w' => e = .returned (.pointer (some ⟨w.heap.size, 0, none⟩)) ∧ Tree w' w.heap.size T (fun b => w.heap.size ≤ b) ∧ Below w.heap.size w w' := by
  have hl := hW.nodes_le
  have hlen := h.len
  obtain ⟨ng, ncap, hnv, hncap, hnmx, hnode⟩ := h.nodes_open hW
  have hrowAll : Hid (∀ j, j < T.nodes.length → ∃ o, G[j]? = some o ∧ w.cell? ⟨ng, j, none⟩ = some (ngPtr o) ∧ ng < w.heap.size) := by
    intro j hj
    obtain ⟨g', cap', hv', _, _, hgl', hcell⟩ := h.row.open_ (by rw [h.len]; exact WF.pos hW)
    rw [hnv] at hv'
    injection hv' with h1 _ _
    injection h1 with h1
    injection h1 with h1 _ _
    have hj' : j < G.length := by rw [hlen]; exact hj
    refine ⟨G[j], List.getElem?_eq_getElem hj', ?_, by rw [h1]; exact hgl'⟩
    rw [h1, hcell j hj', List.getElem?_map, List.getElem?_eq_getElem hj']
    rfl
  have htree := h.tree.cell
  have htl := h.tree.lt
  have hcnt : T.count ≤ 2000 := Nat.le_trans List.countP_le_length hl
  rw [hnv] at htree
  have HX := Lib.hid (And.intro h (And.intro hW (And.intro hA hnode)))
  obtain ⟨N, hN⟩ : ∃ N, N = T.nodes.length := ⟨_, rfl⟩
  rw [← hN] at htree hl hncap
  have HN := Lib.hid hN
  have hNl : ((N : Nat) : Int) ≤ 2000 := by omega
  obtain ⟨cn, hcn⟩ : ∃ cn, cn = T.count := ⟨_, rfl⟩
  rw [← hcn] at htree hcnt
  have HCN := Lib.hid hcn
  obtain ⟨i0, hi0, hz0, hz1, hz2⟩ := info_parts infoNodeP
  clear h hW hA hnode hN hcn hnv hlen
  go_enter Try.func35, Try.ntmps35
  go_upto_region 3 with fail
  go_region
  go_wp2_with fail
  go_loopw [5, 6, 28] (fun _ _ s28 wr => ∃ j : Nat, j ≤ N ∧ s28 = .int .i64 (j : Int) ∧ Hid (∃ G' A2 c2, CopySt w w.heap.size T j G' A2 c2 wr)) (fun _ _ s28 _ => N - (intOf s28).toNat)
  case atStart =>
    refine ⟨0, Nat.zero_le _, rfl, [], none, 0, ?_, rfl, World.ownsRow_nil _ _ _ _, fun i n hi => by omega, fun i hi => by omega, by simp [repBlocks, Value.ownBlock], ?_, (by repeat (first | exact Below.refl _ _ | assumption | (refine Below.setCell ?_ (by first | (simp; done) | (simp; omega) | omega) _) | (refine Below.alloc ?_ (by first | (simp; done) | (simp; omega) | omega) _) | (refine Below.drew ?_) | (refine Below.drewN' ?_ _)))⟩
    · rw [← HCN.out]; exact (by (repeat' (first | (with_reducible assumption) | (with_reducible refine unhid ?_; with_reducible assumption) | (with_reducible refine At.fresh _ _ _ (by first | (simp; done) | (simp; omega) | omega)) | (with_reducible apply At.set') | (with_reducible apply At.far) | (with_reducible apply At.alloc) | (with_reducible apply At.drew) | (with_reducible apply At.drewN) | exact (rfl : Array.setIfInBounds _ _ _ = _) | (refine Ne.symm ?_; simp; done) | (show _ ≠ _; simp; done) | (show _ ≠ _; simp; omega) | (show _ ≠ _; omega))); (first | done | fail))
    · intro b hb
      have : b = w.heap.size := by simpa [repBlocks, Value.ownBlock] using hb
      subst this
      simp
  case round =>
    obtain ⟨j, hj, rfl, hst⟩ := hrel
    obtain ⟨G', A2, c2, hst⟩ := hst.out
    have kT := hst.tree
    rw [← HCN.out] at kT
    have kTc := kT.cell
    have kTf := kT.frozen
    have kTl := kT.lt
    have hbr := hst.below
    have hzr := hbr.size
    have hcrow := Lib.hid hst.row
    have HT := Lib.hid kT
    have hno : (Value.slice A2 j c2).ownBlock ≠ some w.heap.size := fun e => by
      have := hst.nodup
      rw [repBlocks_eq, List.nodup_append, List.nodup_cons] at this
      exact this.1.1 (by simp [e])
    have HNo := Lib.hid hno
    have HST := Lib.hid hst
    have HBR := Lib.hid hbr
    clear hst kT hno
    by_cases hlt : j < N
    · obtain ⟨o, hGj, hcell, hngl⟩ := hrowAll.out j (by have := HN.out; omega)
      have hcell' : wr.cell? ⟨ng, j, none⟩ = some (ngPtr o) := by rw [← hcell]; exact hbr.cell (p := ⟨ng, j, none⟩) hngl
      have hngl' : ng < wr.heap.size := by omega
      have HG := Lib.hid hGj
      have hbound : (j + 1) * 8 ≤ 140737488355328 := by omega
      have HAp : ∀ (o' : Option NG) (w2 : World), Below wr.heap.size wr w2 → True := fun _ _ _ => trivial
      clear hbr hGj hcell HAp
      cases hTj : T.at_ j with
      | none =>
        have ho : o = none := by
          have h1 := HX.out.1.none_ j (by rw [HX.out.1.len]; exact (by have := HN.out; omega)) hTj
          rw [HG.out] at h1
          exact Option.some.inj h1
        subst ho
        have HTj := Lib.hid hTj
        clear hTj
        have hcell'' : wr.cell? ⟨ng, j, none⟩ = some (.pointer none) := hcell'
        clear hcell'
        go_upto_region 11 with fail
        go_wp2_with (at_builtin; refine wpList_append_lies _ rfl (.tmp 55) (.tmp 57) 141 rfl w.heap.size 134 i0 (.pointer none) 1 8 Try.underlying141 hi0 hz0 hz1 hz2 rfl (by decide) (.slice A2 j c2) j (G'.map ngPtr) rfl ?own ⟨wr.heap.size, 0, none⟩ 1 1 [.pointer none] rfl ?c1 ?c2 ?c3 (by decide) ?c4 ?c5 ?c6 (wr.heap.size + 1) ?c7 ?grow)
        case own => exact (own_same hcrow.out fun b hb1 => (Below.refl wr.heap.size wr).block b (own_ge hcrow.out b hb1).2).alloc _
        case c1 => rfl
        case c2 => exact cell_one_new _ _ _
        case c3 => intro u hu; simp at hu; rw [hu]; rfl
        case c4 => unfold maxLen; omega
        case c5 => omega
        case c6 => have := (Below.refl wr.heap.size wr).size; simp; omega
        case c7 => simp
        case grow =>
          intro g1 cap1 w3 hown3 hgrow hlie hlt3
          have kT3 : At w3 w.heap.size 143 #[I T.cap, I T.dep, I (cn : Int), .slice A2 j c2] := ((HT.out.keep (Below.refl wr.heap.size wr)).alloc _).grown hgrow HNo.out
          have kT3c := kT3.cell
          have kT3f := kT3.frozen
          have HP := Lib.hid (HST.out.push (o := none) (Below.refl wr.heap.size wr) (fun _ => rfl) (fun n hn => by rw [HTj.out] at hn; cases hn) List.nodup_nil (fun b hb => by cases hb) hown3 hgrow hlie)
          clear hown3 hgrow hlie kT3
          go_wp2_with fail
          exact ⟨⟨j + 1, by omega, by go_num, _, _, _, HP.out⟩, by simp [intOf]; omega⟩
      | some n =>
        obtain ⟨gb, hgb, hrb⟩ := HX.out.1.node j n hTj
        rw [HG.out] at hgb
        obtain rfl := Option.some.inj hgb
        have hrr := hrb.keep' HBR.out hrb.lt
        have hkl : n.kids.length ≤ 2000 := by have := kids_len HX.out.2.1 hTj; have := HN.out; omega
        have hal := HX.out.2.2.1 j n hTj
        obtain ⟨AA, acap, hav, _, _, _⟩ := hrr.2.1.form
        obtain ⟨KA, kcap, hkv, _, _, _⟩ := hrr.2.2.form
        have hN := hrr.1
        have HCa := Lib.hid (fun (W : World) (hb : Below wr.heap.size wr W) => cloneAttr_any (hrr.2.1.keep hb) (by omega) (attrCells_one n.attrs))
        have HCk := Lib.hid (fun (W : World) (hb : Below wr.heap.size wr W) => cloneInt_any (hrr.2.2.keep hb) (by omega) (kidCells_one n.kids))
        rw [hav] at hN HCa
        rw [hkv] at hN HCk
        have hNc := hN.cell
        have hNl := hN.lt
        have hNh := Lib.hid hN
        have hcell'' : wr.cell? ⟨ng, j, none⟩ = some (.pointer (some ⟨gb.b, 0, none⟩)) := hcell'
        have HTj := Lib.hid hTj
        generalize hm : n.kids.length = m at *
        generalize ham : n.attrs.length = am at *
        generalize hup : DT.upI n.up = u at *
        have HM := Lib.hid (And.intro hm (And.intro ham hup))
        have hml : ((m : Nat) : Int) ≤ 2000 := by omega
        clear hcell' hTj hrb hrr hav hkv hm ham hup hN
        go_upto_region 9 with fail
        go_cut [6] (fun s6 wc => ∃ A1 k1 A3 k3, s6 = .pointer (some ⟨wr.heap.size, 0, none⟩) ∧ At wc wr.heap.size 139 #[I n.tag, .slice A1 am k1, .string n.text, .slice A3 m k3, I u] ∧ wc.ownsRow (wr.heap.size + 1) 55 2 (.slice A1 am k1) am (attrCells n.attrs) ∧ wc.ownsRow (wr.heap.size + 1) 3 1 (.slice A3 m k3) m (kidCells n.kids) ∧ (∀ b, (Value.slice A1 am k1).ownBlock = some b → (Value.slice A3 m k3).ownBlock ≠ some b) ∧ Below wr.heap.size wr wc)
        case first =>
          go_region_held3 (fun w' => w'.cell? ⟨gb.b, 1, none⟩ = some (.slice AA am acap) ∧ w'.cell? ⟨gb.b, 3, none⟩ = some (.slice KA m kcap)) (exact cells13 (t := 139) (by (repeat' (first | (with_reducible assumption) | (with_reducible refine unhid ?_; with_reducible assumption) | (with_reducible refine At.fresh _ _ _ (by first | (simp; done) | (simp; omega) | omega)) | (with_reducible apply At.set') | (with_reducible apply At.far) | (with_reducible apply At.alloc) | (with_reducible apply At.drew) | (with_reducible apply At.drewN) | exact (rfl : Array.setIfInBounds _ _ _ = _) | (refine Ne.symm ?_; simp; done) | (show _ ≠ _; simp; done) | (show _ ≠ _; simp; omega) | (show _ ≠ _; omega))); (first | done | fail))) (first | ((with_reducible refine (HCa.out _ (by repeat (first | exact Below.refl _ _ | assumption | (refine Below.setCell ?_ (by first | (simp; done) | (simp; omega) | omega) _) | (refine Below.alloc ?_ (by first | (simp; done) | (simp; omega) | omega) _) | (refine Below.drew ?_) | (refine Below.drewN' ?_ _)))).mono ?_); rintro e w1 ⟨v_w1, rfl, hown, hb⟩; obtain ⟨A_w1, c_w1, rfl⟩ := own_form hown; have HO_w1 := Lib.hid hown; clear hown; have HBb_w1 := Lib.hid hb; have hz_w1 := hb.size; (try simp only [World.size_alloc, World.size_setCell, World.size_drew, size_drewN'] at hz_w1); have k0_w1 : At w1 (gb.b) 139 #[I n.tag, .slice AA am acap, .string n.text, .slice KA m kcap, I u] := At.keep (by (repeat' (first | (with_reducible assumption) | (with_reducible refine unhid ?_; with_reducible assumption) | (with_reducible refine At.fresh _ _ _ (by first | (simp; done) | (simp; omega) | omega)) | (with_reducible apply At.set') | (with_reducible apply At.far) | (with_reducible apply At.alloc) | (with_reducible apply At.drew) | (with_reducible apply At.drewN) | exact (rfl : Array.setIfInBounds _ _ _ = _) | (refine Ne.symm ?_; simp; done) | (show _ ≠ _; simp; done) | (show _ ≠ _; simp; omega) | (show _ ≠ _; omega))); (first | done | fail)) hb; have k0_w1c := At.cell k0_w1; have k0_w1f := At.frozen k0_w1; have k0_w1h := Lib.hid k0_w1; clear k0_w1; have k1_w1 : At w1 (wr.heap.size) 139 #[I n.tag, .slice AA am acap, .string n.text, .slice KA m kcap, I u] := At.keep (by (repeat' (first | (with_reducible assumption) | (with_reducible refine unhid ?_; with_reducible assumption) | (with_reducible refine At.fresh _ _ _ (by first | (simp; done) | (simp; omega) | omega)) | (with_reducible apply At.set') | (with_reducible apply At.far) | (with_reducible apply At.alloc) | (with_reducible apply At.drew) | (with_reducible apply At.drewN) | exact (rfl : Array.setIfInBounds _ _ _ = _) | (refine Ne.symm ?_; simp; done) | (show _ ≠ _; simp; done) | (show _ ≠ _; simp; omega) | (show _ ≠ _; omega))); (first | done | fail)) hb; have k1_w1c := At.cell k1_w1; have k1_w1f := At.frozen k1_w1; have k1_w1h := Lib.hid k1_w1; clear k1_w1; have hb_w1 : Below wr.heap.size wr w1 := Below.trans (by exact (by repeat (first | exact Below.refl _ _ | assumption | (refine Below.setCell ?_ (by first | (simp; done) | (simp; omega) | omega) _) | (refine Below.alloc ?_ (by first | (simp; done) | (simp; omega) | omega) _) | (refine Below.drew ?_) | (refine Below.drewN' ?_ _)))) (hb.mono (by first | (simp; done) | (simp; omega) | omega)); obtain ⟨hc_w1, hf_w1⟩ := bcell hb_w1; clear hb) | ((with_reducible refine (HCk.out _ (by repeat (first | exact Below.refl _ _ | assumption | (refine Below.setCell ?_ (by first | (simp; done) | (simp; omega) | omega) _) | (refine Below.alloc ?_ (by first | (simp; done) | (simp; omega) | omega) _) | (refine Below.drew ?_) | (refine Below.drewN' ?_ _)))).mono ?_); rintro e w2 ⟨v_w2, rfl, hown, hb⟩; obtain ⟨A_w2, c_w2, rfl⟩ := own_form hown; have HO_w2 := Lib.hid hown; clear hown; have HBb_w2 := Lib.hid hb; have hz_w2 := hb.size; (try simp only [World.size_alloc, World.size_setCell, World.size_drew, size_drewN'] at hz_w2); have k0_w2 : At w2 (gb.b) 139 #[I n.tag, .slice AA am acap, .string n.text, .slice KA m kcap, I u] := At.keep (by (repeat' (first | (with_reducible assumption) | (with_reducible refine unhid ?_; with_reducible assumption) | (with_reducible refine At.fresh _ _ _ (by first | (simp; done) | (simp; omega) | omega)) | (with_reducible apply At.set') | (with_reducible apply At.far) | (with_reducible apply At.alloc) | (with_reducible apply At.drew) | (with_reducible apply At.drewN) | exact (rfl : Array.setIfInBounds _ _ _ = _) | (refine Ne.symm ?_; simp; done) | (show _ ≠ _; simp; done) | (show _ ≠ _; simp; omega) | (show _ ≠ _; omega))); (first | done | fail)) hb; have k0_w2c := At.cell k0_w2; have k0_w2f := At.frozen k0_w2; have k0_w2h := Lib.hid k0_w2; clear k0_w2; have k1_w2 : At w2 (wr.heap.size) 139 #[I n.tag, .slice AA am acap, .string n.text, .slice KA m kcap, I u] := At.keep (by (repeat' (first | (with_reducible assumption) | (with_reducible refine unhid ?_; with_reducible assumption) | (with_reducible refine At.fresh _ _ _ (by first | (simp; done) | (simp; omega) | omega)) | (with_reducible apply At.set') | (with_reducible apply At.far) | (with_reducible apply At.alloc) | (with_reducible apply At.drew) | (with_reducible apply At.drewN) | exact (rfl : Array.setIfInBounds _ _ _ = _) | (refine Ne.symm ?_; simp; done) | (show _ ≠ _; simp; done) | (show _ ≠ _; simp; omega) | (show _ ≠ _; omega))); (first | done | fail)) hb; have k1_w2c := At.cell k1_w2; have k1_w2f := At.frozen k1_w2; have k1_w2h := Lib.hid k1_w2; clear k1_w2; have hb_w2 : Below wr.heap.size wr w2 := Below.trans (by exact (by repeat (first | exact Below.refl _ _ | assumption | (refine Below.setCell ?_ (by first | (simp; done) | (simp; omega) | omega) _) | (refine Below.alloc ?_ (by first | (simp; done) | (simp; omega) | omega) _) | (refine Below.drew ?_) | (refine Below.drewN' ?_ _)))) (hb.mono (by first | (simp; done) | (simp; omega) | omega)); obtain ⟨hc_w2, hf_w2⟩ := bcell hb_w2; clear hb))
          all_goals go_wp2_with fail
          all_goals
            go_meet
            have h1 := own_ge HO_w1.out
            have h2 := own_ge HO_w2.out
            simp only [World.size_alloc, World.size_setCell, World.size_drew] at h1 h2
            have hne1 : ∀ b, (Value.slice A_w1 am c_w1).ownBlock = some b → b ≠ wr.heap.size := fun b hb => by have := h1 b hb; omega
            have hne2 : ∀ b, (Value.slice A_w2 m c_w2).ownBlock = some b → b ≠ wr.heap.size := fun b hb => by have := h2 b hb; omega
            have o1 := own_same (own_base HO_w1.out (show wr.heap.size + 1 ≤ _ from (by first | (simp; done) | (simp; omega) | omega))) fun b hb => HBb_w2.out.block b (h1 b hb).2
            have o2 := own_base HO_w2.out (show wr.heap.size + 1 ≤ _ from (by first | (simp; done) | (simp; omega) | omega))
            refine ⟨_, _, _, _, rfl, (by (repeat' (first | (with_reducible assumption) | (with_reducible refine unhid ?_; with_reducible assumption) | (with_reducible refine At.fresh _ _ _ (by first | (simp; done) | (simp; omega) | omega)) | (with_reducible apply At.set') | (with_reducible apply At.far) | (with_reducible apply At.alloc) | (with_reducible apply At.drew) | (with_reducible apply At.drewN) | exact (rfl : Array.setIfInBounds _ _ _ = _) | (refine Ne.symm ?_; simp; done) | (show _ ≠ _; simp; done) | (show _ ≠ _; simp; omega) | (show _ ≠ _; omega))); (first | done | fail)), ?_, ?_, fun b hb e => ?_, (by repeat (first | exact Below.refl _ _ | assumption | (refine Below.setCell ?_ (by first | (simp; done) | (simp; omega) | omega) _) | (refine Below.alloc ?_ (by first | (simp; done) | (simp; omega) | omega) _) | (refine Below.drew ?_) | (refine Below.drewN' ?_ _)))⟩
            · exact own_same o1 fun b hb => by rw [Below.heap_setCell _ _ _ _ (hne1 b hb), Below.heap_setCell _ _ _ _ (hne1 b hb)]
            · exact own_same o2 fun b hb => by rw [Below.heap_setCell _ _ _ _ (hne2 b hb), Below.heap_setCell _ _ _ _ (hne2 b hb)]
            · have := h1 b hb; have := h2 b e; omega
        case rest =>
          obtain ⟨A1, k1, A3, k3, rfl, kM, o1, o2, hne, hbc⟩ := hcut
          obtain ⟨wm, rfl⟩ : ∃ wm, wm = wc := ⟨_, rfl⟩
          have hzm := hbc.size
          have hMl := kM.lt
          have HNd : Hid (NodeRep wm ⟨wr.heap.size, .slice A1 am k1, .slice A3 m k3⟩ n ∧ (ngBlocks (some ⟨wr.heap.size, .slice A1 am k1, .slice A3 m k3⟩)).Nodup ∧ ∀ b ∈ ngBlocks (some ⟨wr.heap.size, .slice A1 am k1, .slice A3 m k3⟩), wr.heap.size ≤ b ∧ b < wm.heap.size) := by
            have g1 := own_ge o1
            have g2 := own_ge o2
            refine ⟨⟨?_, ?_, ?_⟩, ?_, ?_⟩
            · rw [HM.out.2.2]; exact kM
            · rw [HM.out.2.1]; exact own_mono o1
            · rw [HM.out.1]; exact own_mono o2
            · simp only [ngBlocks, NG.blocks, List.nodup_cons, List.mem_append, Option.mem_toList, not_or, List.nodup_append]
              refine ⟨⟨fun e => by have := g1 _ e; omega, fun e => by have := g2 _ e; omega⟩, ?_, ?_, fun a ha b hb1 e => ?_⟩
              · cases (Value.slice A1 am k1).ownBlock <;> simp
              · cases (Value.slice A3 m k3).ownBlock <;> simp
              · subst e
                exact hne a (by simpa using ha) (by simpa using hb1)
            · intro b hb
              simp only [ngBlocks, NG.blocks, List.mem_cons, List.mem_append, Option.mem_toList] at hb
              rcases hb with rfl | hb | hb
              · exact ⟨Nat.le_refl _, hMl⟩
              · have := g1 b hb; omega
              · have := g2 b hb; omega
          have HBC := Lib.hid hbc
          have kTm := HT.out.keep hbc
          have kTmc := kTm.cell
          have kTmf := kTm.frozen
          have kTml := kTm.lt
          clear kM o1 o2 hne hbc kTm
          go_wp2_with (at_builtin; refine wpList_append_lies _ rfl (.tmp 55) (.tmp 57) 141 rfl w.heap.size 134 i0 (.pointer none) 1 8 Try.underlying141 hi0 hz0 hz1 hz2 rfl (by decide) (.slice A2 j c2) j (G'.map ngPtr) rfl ?own ⟨wm.heap.size, 0, none⟩ 1 1 [.pointer (some ⟨wr.heap.size, 0, none⟩)] rfl ?c1 ?c2 ?c3 (by decide) ?c4 ?c5 ?c6 (wm.heap.size + 1) ?c7 ?grow)
          case own => exact (own_same hcrow.out fun b hb1 => (HBC.out).block b (own_ge hcrow.out b hb1).2).alloc _
          case c3 => rfl
          case c4 => unfold maxLen; omega
          case c6 => have := (HBC.out).size; simp; omega
          case grow =>
            intro g1 cap1 w3 hown3 hgrow hlie hlt3
            have kT3 : At w3 w.heap.size 143 #[I T.cap, I T.dep, I (cn : Int), .slice A2 j c2] := ((HT.out.keep (HBC.out)).alloc _).grown hgrow HNo.out
            have kT3c := kT3.cell
            have kT3f := kT3.frozen
            have HP := Lib.hid (HST.out.push (o := some ⟨wr.heap.size, .slice A1 am k1, .slice A3 m k3⟩) (HBC.out) (fun e => by rw [HTj.out] at e; cases e) (fun n' hn' => by rw [HTj.out] at hn'; cases hn'; exact ⟨_, rfl, HNd.out.1⟩) HNd.out.2.1 HNd.out.2.2 hown3 hgrow hlie)
            clear hown3 hgrow hlie kT3
            go_wp2_with fail
            exact ⟨⟨j + 1, by omega, by go_num, _, _, _, HP.out⟩, by simp [intOf]; omega⟩
    · have hjN : j = N := by omega
      subst hjN
      go_wp2_with fail
      go_ret
      have hD := HST.out
      rw [HN.out] at hD
      exact ⟨rfl, hD.done, HBR.out⟩
end
end Go.Proofs.Ytnnjlpkjpbbklaa
