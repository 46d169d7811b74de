/-
  SameAttrs and SameNode of the document's answer: true of equal ones. Conditions: both lie in memory.
-/
import Derived.Test.YtnnjlpkjpbbklaaDomNil
import Derived.Test.YtnnjlpkjpbbklaaDomMeasure2
set_option linter.unusedVariables false
set_option linter.unusedSimpArgs false
namespace Go.Proofs.Ytnnjlpkjpbbklaa
open Go.RowKit

theorem attrCells_get (l : List (Bytes × Bytes)) (j : Nat) (hj : j < l.length) : (attrCells l)[j * 2]? = some (.string (l[j]).1) ∧ (attrCells l)[j * 2 + 1]? = some (.string (l[j]).2) := by
  induction l generalizing j with
  | nil => simp at hj
  | cons a l ih =>
    cases j with
    | zero => exact ⟨rfl, rfl⟩
    | succ j =>
      have h := ih j (by simpa using hj)
      have e : attrCells (a :: l) = .string a.1 :: .string a.2 :: attrCells l := rfl
      rw [e, show (j + 1) * 2 = j * 2 + 1 + 1 by omega, show j * 2 + 1 + 1 + 1 = (j * 2 + 1) + 1 + 1 by omega]
      simp only [List.getElem?_cons_succ, List.getElem_cons_succ]
      exact h

/-- A row of attributes, cell by cell. -/
theorem RowR.attr {w : World} {v : Value} {n : Nat} {l : List (Bytes × Bytes)} (h : RowR w 2 v n (attrCells l)) : l.length = n ∧ ∃ A cap, v = .slice A n cap ∧ ∀ j (hj : j < l.length), ∃ b off, A = some ⟨b, off, none⟩ ∧ w.cell? ⟨b, off + j * 2, none⟩ = some (.string (l[j]).1) ∧ w.cell? ⟨b, off + j * 2 + 1, none⟩ = some (.string (l[j]).2) := by
  have hl : l.length = n := by have := h.1; rw [attrCells_length] at this; omega
  refine ⟨hl, ?_⟩
  rcases h.2 with ⟨rfl, h0⟩ | ⟨A, cap, rfl, hc⟩
  · exact ⟨none, 0, by rw [h0], fun j hj => by omega⟩
  · refine ⟨some A, cap, rfl, fun j hj => ?_⟩
    obtain ⟨h1, h2⟩ := attrCells_get l j hj
    have c1 := hc _ _ h1
    have c2 := hc _ _ h2
    obtain ⟨b, off, spot⟩ := A
    have hs : spot = none := by
      have h0 := World.cell?_spot (hc 0 _ (attrCells_get l 0 (by omega)).1)
      simpa [Addr.add] using h0
    subst hs
    have ha : ∀ k, (⟨b, off, none⟩ : Addr).add k = ⟨b, off + k, none⟩ := fun k => by
      unfold Addr.add
      by_cases hk : k = 0 <;> simp [hk]
    rw [ha] at c1 c2
    exact ⟨b, off, rfl, c1, by rw [Nat.add_assoc]; exact c2⟩

set_option maxHeartbeats 1000000 in
theorem sameAttrs_eq {w : World} {va vb : Value} {n : Nat} {l : List (Bytes × Bytes)} (ha : RowR w 2 va n (attrCells l)) (hb : RowR w 2 vb n (attrCells l)) (hn : n ≤ 1000000) :
    Calls Try.prog 121 #[va, vb] w (Ret (.bool true) w) := by
  obtain ⟨hl, A, ca, rfl, hA⟩ := ha.attr
  obtain ⟨_, B, cb, rfl, hB⟩ := hb.attr
  have HA := Lib.hid hA
  have HB := Lib.hid hB
  have HL := Lib.hid hl
  clear ha hb hA hB hl
  have hnl : (n : Int) ≤ 1000000 := by omega
  go_enter Try.func121, Try.ntmps121
  go_wp2_with fail
  go_loopw [5] (fun s5 wr => ∃ k : Nat, k ≤ n ∧ s5 = .int .i64 (k : Int) ∧ Hid (Below w.heap.size w wr)) (fun s5 _ => n - (intOf s5).toNat)
  case atStart => exact ⟨0, Nat.zero_le _, rfl, Below.refl _ _⟩
  case round =>
    obtain ⟨k, hk, rfl, hbr⟩ := hrel
    by_cases hlt : k < n
    · have hkl : k < l.length := by have := HL.out; omega
      obtain ⟨b1, o1, rfl, c1, c2⟩ := HA.out k hkl
      obtain ⟨b2, o2, rfl, c3, c4⟩ := HB.out k hkl
      have l1 := World.block_lt_of_cell? w _ c1
      have l2 := World.block_lt_of_cell? w _ c3
      rw [← hbr.out.cell (p := ⟨b1, o1 + k * 2, none⟩) l1] at c1
      rw [← hbr.out.cell (p := ⟨b1, o1 + k * 2 + 1, none⟩) l1] at c2
      rw [← hbr.out.cell (p := ⟨b2, o2 + k * 2, none⟩) l2] at c3
      rw [← hbr.out.cell (p := ⟨b2, o2 + k * 2 + 1, none⟩) l2] at c4
      generalize l[k] = a at c1 c2 c3 c4
      clear hkl
      go_wp2_with fail
      go_quiet (fail)
      go_wp2_with fail
      exact ⟨⟨k + 1, by omega, by go_num, hbr.out.drewN' nq⟩, by simp [intOf]; omega⟩
    · have hkn : k = n := by omega
      subst hkn
      go_wp2_with fail
      go_ret
      exact ⟨rfl, hbr.out⟩

namespace PNode
-- not very wide
mutual
def thin : PNode → Prop
  | .mk _ _ _ ks => ks.length ≤ 1000000 ∧ thinL ks
def thinL : List PNode → Prop
  | [] => True
  | k :: ks => thin k ∧ thinL ks
end
theorem thinL_iff (ks : List PNode) : thinL ks ↔ ∀ k ∈ ks, thin k := by
  induction ks with
  | nil => simp [thinL]
  | cons k ks ih => simp only [thinL, List.mem_cons, forall_eq_or_imp, ih]
end PNode
/-- What a sound tree tells is neither very wide nor very large. -/
theorem DT.WF.plain_fine {T : DT} (hW : T.WF) (hA : T.AB) : ∀ f i, (T.plainF f i).small ∧ (T.plainF f i).thin := by
  intro f
  induction f with
  | zero => intro i; unfold DT.plainF; unfold PNode.small PNode.thin; exact ⟨⟨by simp, by decide, trivial⟩, by simp, trivial⟩
  | succ f ih =>
    intro i
    unfold DT.plainF
    cases hi : T.at_ i with
    | none => dsimp only; unfold PNode.small PNode.thin; exact ⟨⟨by simp, by decide, trivial⟩, by simp, trivial⟩
    | some n =>
      dsimp only
      unfold PNode.small PNode.thin
      have h1 := hW.txt _ _ hi
      have h2 := kids_len hW hi
      have h3 := hW.nodes_le
      refine ⟨⟨hA _ _ hi, by omega, (PNode.smallL_iff _).2 fun k hk => ?_⟩, by rw [List.length_map]; omega, (PNode.thinL_iff _).2 fun k hk => ?_⟩
      · obtain ⟨j, _, rfl⟩ := List.mem_map.1 hk
        exact (ih j).1
      · obtain ⟨j, _, rfl⟩ := List.mem_map.1 hk
        exact (ih j).2
theorem DT.WF.plain_small {T : DT} (hW : T.WF) (hA : T.AB) (id : Int) : (T.plain id).small ∧ (T.plain id).thin := by
  unfold DT.plain
  split
  · exact hW.plain_fine hA _ _
  · unfold PNode.small PNode.thin; exact ⟨⟨by simp, by decide, trivial⟩, by simp, trivial⟩

/-- A kid's four cells. -/
theorem RowQ.kid {w : World} {R : Nat → Prop} {KA : Option Addr} {km kc : Nat} {ks : List VN} (h : RowQ w R 4 (.slice KA km kc) km (kidsCells ks)) {j : Nat} (hj : j < ks.length) :
    ∃ b off, KA = some ⟨b, off, none⟩ ∧ R b ∧ ∀ q, q < 4 → w.cell? ⟨b, off + j * 4 + q, none⟩ = (ks[j]).cells[q]? := by
  have hl : ks.length = km := by have := h.1; rw [kidsCells_length] at this; omega
  obtain ⟨b, off, cap, hv, _, _, hRb, hcell⟩ := h.open_ (by omega)
  injection hv with h1 _ _
  refine ⟨b, off, h1, hRb, fun q hq => ?_⟩
  have h2 := kidsCells_get ks j hj q hq
  obtain ⟨u, hu⟩ : ∃ u, (ks[j]).cells[q]? = some u := ⟨(ks[j]).cells[q]'(by rw [VN.cells_length]; exact hq), List.getElem?_eq_getElem _⟩
  rw [hu] at h2 ⊢
  rw [Nat.add_assoc]
  exact hcell _ _ h2

theorem VN.kid_open {w : World} {R : Nat → Prop} {V : VN} (h : PV w R V) : ∃ t al x a5 n5 c5 a6 n6 c6 ks, V = .mk t al x (.slice a5 n5 c5) (.slice a6 n6 c6) ks := by
  obtain ⟨t, al, x, av, kv, ks⟩ := V
  obtain ⟨a5, n5, c5, a6, n6, c6, rfl, rfl⟩ := VN.forms h
  exact ⟨_, _, _, _, _, _, _, _, _, _, rfl⟩

set_option maxHeartbeats 2000000 in
theorem sameNode_eq : ∀ (V : VN) (U : VN) (R R' : Nat → Prop) (w : World), PV w R V → PV w R' U → V.node = U.node → V.node.small → V.node.thin → (∀ b, R b → b < w.heap.size) → (∀ b, R' b → b < w.heap.size) →
    Calls Try.prog 41 #[V.agg, U.agg] w (Ret (.bool true) w) := by
  intro V
  induction V using VN.ind with
  | h t al x av kv ks ih =>
    intro U R R' w hP hQ heq hs ht hR hR'
    obtain ⟨t', al', x', av', kv', ks'⟩ := U
    rw [VN.node_mk, VN.node_mk] at heq
    rw [VN.node_mk] at hs ht
    injection heq with e1 e2 e3 e4
    subst e1 e2 e3
    unfold PNode.small at hs
    obtain ⟨hs1, hs2, hs3⟩ := hs
    unfold PNode.thin at ht
    obtain ⟨ht1, ht2⟩ := ht
    rw [List.length_map] at ht1
    cases hP with
    | mk ha hk hkids =>
      cases hQ with
      | mk ha' hk' hkids' =>
        have hlen : ks.length = ks'.length := by have := congrArg List.length e4; simpa using this
        obtain ⟨AA, ac, rfl, hac1, hac2, hA0⟩ := ha.form
        obtain ⟨KA, kc, rfl, hkc1, hkc2, hK0⟩ := hk.form
        obtain ⟨AA', ac', rfl, hac1', hac2', hA0'⟩ := ha'.form
        rw [← hlen] at hk'
        obtain ⟨KA', kc', rfl, hkc1', hkc2', hK0'⟩ := hk'.form
        have HS := Lib.hid (fun (W : World) (hb : Below w.heap.size w W) => sameAttrs_eq (ha.reads.keep hb) (ha'.reads.keep hb) (by omega))
        have HK := Lib.hid (And.intro hk (And.intro hkids (And.intro hs3 (And.intro hR (And.intro e4 ht2)))))
        have HK' := Lib.hid (And.intro hk' (And.intro hkids' (And.intro hR' hlen)))
        have IH := Lib.hid ih
        dsimp only [VN.agg]
        generalize hm : ks.length = m at *
        generalize ham : al.length = am at *
        have HM := Lib.hid (And.intro hm ham)
        have hml : (m : Int) ≤ 1000000 := by omega
        clear ha hk hkids ha' hk' hkids' hs1 hs2 hs3 hR hR' e4 ih hm ham hA0 hK0 hA0' hK0'
        clear hlen ht1 ht2
        go_enter Try.func41, Try.ntmps41
        go_wp2_with (((with_reducible refine (HS.out _ (by repeat (first | exact Below.refl _ _ | assumption | (refine Below.setCell ?_ (by first | (simp; done) | (simp; omega) | omega) _) | (refine Below.alloc ?_ (by first | (simp; done) | (simp; omega) | omega) _) | (refine Below.drew ?_) | (refine Below.drewN' ?_ _)))).mono ?_); rintro e w1 ⟨rfl, hb⟩; have hz_w1 := hb.size; (try simp only [World.size_alloc, World.size_setCell, World.size_drew, size_drewN'] at hz_w1); have k0_w1 : At w1 (w.heap.size) 41 #[I t, .slice AA am ac, .string x, .slice KA m kc] := At.keep (by (repeat' (first | (with_reducible assumption) | (with_reducible refine unhid ?_; with_reducible assumption) | (with_reducible refine At.fresh _ _ _ (by first | (simp; done) | (simp; omega) | omega)) | (with_reducible apply At.set') | (with_reducible apply At.far) | (with_reducible apply At.alloc) | (with_reducible apply At.drew) | (with_reducible apply At.drewN) | exact (rfl : Array.setIfInBounds _ _ _ = _) | (refine Ne.symm ?_; simp; done) | (show _ ≠ _; simp; done) | (show _ ≠ _; simp; omega) | (show _ ≠ _; omega))); (first | done | fail)) hb; have k0_w1c := At.cell k0_w1; have k0_w1f := At.frozen k0_w1; have k0_w1h := Lib.hid k0_w1; clear k0_w1; have k1_w1 : At w1 (w.heap.size + 1) 41 #[I t, .slice AA' am ac', .string x, .slice KA' m kc'] := At.keep (by (repeat' (first | (with_reducible assumption) | (with_reducible refine unhid ?_; with_reducible assumption) | (with_reducible refine At.fresh _ _ _ (by first | (simp; done) | (simp; omega) | omega)) | (with_reducible apply At.set') | (with_reducible apply At.far) | (with_reducible apply At.alloc) | (with_reducible apply At.drew) | (with_reducible apply At.drewN) | exact (rfl : Array.setIfInBounds _ _ _ = _) | (refine Ne.symm ?_; simp; done) | (show _ ≠ _; simp; done) | (show _ ≠ _; simp; omega) | (show _ ≠ _; omega))); (first | done | fail)) hb; have k1_w1c := At.cell k1_w1; have k1_w1f := At.frozen k1_w1; have k1_w1h := Lib.hid k1_w1; clear k1_w1; have hb_w1 : Below w.heap.size w w1 := Below.trans (by exact (by repeat (first | exact Below.refl _ _ | assumption | (refine Below.setCell ?_ (by first | (simp; done) | (simp; omega) | omega) _) | (refine Below.alloc ?_ (by first | (simp; done) | (simp; omega) | omega) _) | (refine Below.drew ?_) | (refine Below.drewN' ?_ _)))) (hb.mono (by first | (simp; done) | (simp; omega) | omega)); obtain ⟨hc_w1, hf_w1⟩ := bcell hb_w1; clear hb))
        have HB1 := Lib.hid hb_w1
        have B0 := k0_w1h.out
        have B1 := k1_w1h.out
        clear k0_w1c k0_w1f k0_w1h k1_w1c k1_w1f k1_w1h hb_w1 hc_w1 hf_w1
        have hz1 := HB1.out.size
        have HBx := Lib.hid (And.intro B0 B1)
        clear B0 B1
        go_loopw [5] (fun s5 wr => ∃ k : Nat, k ≤ m ∧ s5 = .int .i64 (k : Int) ∧ Hid (Below w1.heap.size w1 wr)) (fun s5 _ => m - (intOf s5).toNat)
        case atStart => exact ⟨0, Nat.zero_le _, rfl, Below.refl _ _⟩
        case round =>
          obtain ⟨k, hk, rfl, hbr⟩ := hrel
          have hbr1 : Below w.heap.size w wr := HB1.out.trans (hbr.out.mono hz1)
          have hzr := hbr1.size
          have b0 := HBx.out.1.keep hbr.out
          have b1 := HBx.out.2.keep hbr.out
          have b0c := b0.cell
          have b1c := b1.cell
          have b0l := b0.lt
          have b1l := b1.lt
          have HBR2 := Lib.hid hbr.out
          have HBr := Lib.hid (And.intro hbr1 (And.intro b0 b1))
          by_cases hlt : k < m
          · have hkl : k < ks.length := by have := HM.out.1; omega
            have hkl' : k < ks'.length := by have := HK'.out.2.2.2; have := HM.out.1; omega
            obtain ⟨c1, o1, rfl, hR1, hq⟩ := (HK.out.1.keep (fun b hb => hbr1.block b (HK.out.2.2.2.1 b hb))).kid hkl
            obtain ⟨c2, o2, rfl, hR2, hq'⟩ := (HK'.out.1.keep (fun b hb => hbr1.block b (HK'.out.2.2.1 b hb))).kid hkl'
            have hmem : ks[k] ∈ ks := List.getElem_mem hkl
            have hmem' : ks'[k] ∈ ks' := List.getElem_mem hkl'
            have hnode : (ks[k]).node = (ks'[k]).node := by
              have h1 := HK.out.2.2.2.2.1
              have h2 : (ks.map VN.node)[k]? = (ks'.map VN.node)[k]? := by rw [h1]
              simpa [List.getElem?_eq_getElem hkl, List.getElem?_eq_getElem hkl'] using h2
            have hPV := (HK.out.2.1 _ hmem).keepB hbr1 HK.out.2.2.2.1
            have hPU := (HK'.out.2.1 _ hmem').keepB hbr1 HK'.out.2.2.1
            have hsm : (ks[k]).node.small := (PNode.smallL_iff _).1 HK.out.2.2.1 _ (List.mem_map.2 ⟨_, hmem, rfl⟩)
            have hth : (ks[k]).node.thin := (PNode.thinL_iff _).1 HK.out.2.2.2.2.2 _ (List.mem_map.2 ⟨_, hmem, rfl⟩)
            have HI : Hid (∀ W, Below wr.heap.size wr W → Calls Try.prog 41 #[(ks[k]).agg, (ks'[k]).agg] W (Ret (.bool true) W)) := by
              intro W hb
              have hzW := hb.size
              have hb' : Below w.heap.size w W := hbr1.trans (hb.mono hzr)
              exact IH.out _ hmem _ R R' W ((HK.out.2.1 _ hmem).keepB hb' HK.out.2.2.2.1) ((HK'.out.2.1 _ hmem').keepB hb' HK'.out.2.2.1) hnode hsm hth (fun b hb1 => by have := HK.out.2.2.2.1 b hb1; omega) (fun b hb1 => by have := HK'.out.2.2.1 b hb1; omega)
            obtain ⟨kt, kal, kx, d1, d2, d3, d4, d5, d6, kks, hVk⟩ := VN.kid_open hPV
            obtain ⟨kt', kal', kx', d1', d2', d3', d4', d5', d6', kks', hUk⟩ := VN.kid_open hPU
            rw [hVk] at HI hq
            rw [hUk] at HI hq'
            simp only [VN.agg, VN.cells] at HI hq hq'
            have q0 := hq 0 (by omega)
            have q1 := hq 1 (by omega)
            have q2 := hq 2 (by omega)
            have q3 := hq 3 (by omega)
            have q0' := hq' 0 (by omega)
            have q1' := hq' 1 (by omega)
            have q2' := hq' 2 (by omega)
            have q3' := hq' 3 (by omega)
            simp at q0 q1 q2 q3 q0' q1' q2' q3'
            clear hq hq' hPV hPU hsm hth hnode hmem hmem' hkl hkl' hVk hUk hbr hbr1 b0 b1
            go_wp2_with fail
            (refine wp_region_quiet_below (by kernel_rfl) (by kernel_rfl) ?_; (repeat (go_big_quiet_step (exact quietRet (HI.out _ (below_regrown _ _ _))))); refine wpQuiet_nil ?_; intro w5 hw'; have hb := below_class hw'; clear hw'; have hz_w5 := hb.size; (try simp only [World.size_alloc, World.size_setCell, World.size_drew, size_drewN'] at hz_w5); have hb_w5 : Below wr.heap.size wr w5 := Below.trans (by exact (by repeat (first | exact Below.refl _ _ | assumption | (refine Below.setCell ?_ (by first | (simp; done) | (simp; omega) | omega) _) | (refine Below.alloc ?_ (by first | (simp; done) | (simp; omega) | omega) _) | (refine Below.drew ?_) | (refine Below.drewN' ?_ _)))) (hb.mono (by first | (simp; done) | (simp; omega) | omega)); obtain ⟨hc_w5, hf_w5⟩ := bcell hb_w5; clear hb)
            go_wp2_with fail
            exact ⟨⟨k + 1, by omega, by go_num, HBR2.out.trans (hb_w5.mono HBR2.out.size)⟩, by simp [intOf]; omega⟩
          · have hkm : k = m := by omega
            subst hkm
            clear b0 b1
            go_wp2_with fail
            go_ret
            exact ⟨rfl, HBr.out.1⟩
end Go.Proofs.Ytnnjlpkjpbbklaa
