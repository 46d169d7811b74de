/-
  The helpers of chapter 8's statements: SameNode, Heavy, Played; its arguments opened. Conditions: the arguments lie in memory.
-/
import Derived.Test.YtnnjlpkjpbbklaaLawA
import Derived.Test.YtnnjlpkjpbbklaaMemE
import Derived.Deep.CutBlock
import Derived.Deep.Slices
import Derived.Lib.SmallJoins
-- Same: SameAttrs and SameNode of the document's answer: true of equal ones. Conditions: both lie in memory.
set_option linter.unusedVariables false
set_option linter.unusedSimpArgs false
namespace Go.Proofs.Ytnnjlpkjpbbklaa
open Go.RowKit

theorem attrCells_get (l : List (Bytes × Bytes)) (j : Nat) (hj : j < l.length) : (attrCells l)[j * 2]? = some (.string (l[j]).1) ∧ (attrCells l)[j * 2 + 1]? = some (.string (l[j]).2) := by
  induction l generalizing j with
  | nil => simp at hj
  | cons a l ih =>
    cases j with
    | zero => exact ⟨rfl, rfl⟩
    | succ j =>
      have h := ih j (by simpa using hj)
      have e : attrCells (a :: l) = .string a.1 :: .string a.2 :: attrCells l := rfl
      rw [e, show (j + 1) * 2 = j * 2 + 1 + 1 by omega, show j * 2 + 1 + 1 + 1 = (j * 2 + 1) + 1 + 1 by omega]
      simp only [List.getElem?_cons_succ, List.getElem_cons_succ]
      exact h

/-- A row of attributes, cell by cell. -/
theorem RowR.attr {w : World} {v : Value} {n : Nat} {l : List (Bytes × Bytes)} (h : RowR w 2 v n (attrCells l)) : l.length = n ∧ ∃ A cap, v = .slice A n cap ∧ ∀ j (hj : j < l.length), ∃ b off, A = some ⟨b, off, none⟩ ∧ w.cell? ⟨b, off + j * 2, none⟩ = some (.string (l[j]).1) ∧ w.cell? ⟨b, off + j * 2 + 1, none⟩ = some (.string (l[j]).2) := by
  have hl : l.length = n := by have := h.1; rw [attrCells_length] at this; omega
  refine ⟨hl, ?_⟩
  rcases h.2 with ⟨rfl, h0⟩ | ⟨A, cap, rfl, hc⟩
  · exact ⟨none, 0, by rw [h0], fun j hj => by omega⟩
  · refine ⟨some A, cap, rfl, fun j hj => ?_⟩
    obtain ⟨h1, h2⟩ := attrCells_get l j hj
    have c1 := hc _ _ h1
    have c2 := hc _ _ h2
    obtain ⟨b, off, spot⟩ := A
    have hs : spot = none := by
      have h0 := World.cell?_spot (hc 0 _ (attrCells_get l 0 (by omega)).1)
      simpa [Addr.add] using h0
    subst hs
    have ha : ∀ k, (⟨b, off, none⟩ : Addr).add k = ⟨b, off + k, none⟩ := fun k => by
      unfold Addr.add
      by_cases hk : k = 0 <;> simp [hk]
    rw [ha] at c1 c2
    exact ⟨b, off, rfl, c1, by rw [Nat.add_assoc]; exact c2⟩

set_option maxHeartbeats 1000000 in
theorem sameAttrs_eq {w : World} {va vb : Value} {n : Nat} {l : List (Bytes × Bytes)} (ha : RowR w 2 va n (attrCells l)) (hb : RowR w 2 vb n (attrCells l)) (hn : n ≤ 1000000) :
    Calls Try.prog 121 #[va, vb] w (Ret (.bool true) w) := by
  obtain ⟨hl, A, ca, rfl, hA⟩ := ha.attr
  obtain ⟨_, B, cb, rfl, hB⟩ := hb.attr
  have HA := Lib.hid hA
  have HB := Lib.hid hB
  have HL := Lib.hid hl
  clear ha hb hA hB hl
  have hnl : (n : Int) ≤ 1000000 := by omega
  go_enter Try.func121, Try.ntmps121
  go_wp2_with fail
  go_loopw [5] (fun s5 wr => ∃ k : Nat, k ≤ n ∧ s5 = .int .i64 (k : Int) ∧ Hid (Below w.heap.size w wr)) (fun s5 _ => n - (intOf s5).toNat)
  case atStart => exact ⟨0, Nat.zero_le _, rfl, Below.refl _ _⟩
  case round =>
    obtain ⟨k, hk, rfl, hbr⟩ := hrel
    by_cases hlt : k < n
    · have hkl : k < l.length := by have := HL.out; omega
      obtain ⟨b1, o1, rfl, c1, c2⟩ := HA.out k hkl
      obtain ⟨b2, o2, rfl, c3, c4⟩ := HB.out k hkl
      have l1 := World.block_lt_of_cell? w _ c1
      have l2 := World.block_lt_of_cell? w _ c3
      rw [← hbr.out.cell (p := ⟨b1, o1 + k * 2, none⟩) l1] at c1
      rw [← hbr.out.cell (p := ⟨b1, o1 + k * 2 + 1, none⟩) l1] at c2
      rw [← hbr.out.cell (p := ⟨b2, o2 + k * 2, none⟩) l2] at c3
      rw [← hbr.out.cell (p := ⟨b2, o2 + k * 2 + 1, none⟩) l2] at c4
      generalize l[k] = a at c1 c2 c3 c4
      clear hkl
      go_wp2_with fail
      go_quiet (fail)
      go_wp2_with fail
      exact ⟨⟨k + 1, by omega, by go_num, hbr.out.drewN' nq⟩, by simp [intOf]; omega⟩
    · have hkn : k = n := by omega
      subst hkn
      go_wp2_with fail
      go_ret
      exact ⟨rfl, hbr.out⟩

namespace PNode
-- not very wide
mutual
def thin : PNode → Prop
  | .mk _ _ _ ks => ks.length ≤ 1000000 ∧ thinL ks
def thinL : List PNode → Prop
  | [] => True
  | k :: ks => thin k ∧ thinL ks
end
theorem thinL_iff (ks : List PNode) : thinL ks ↔ ∀ k ∈ ks, thin k := by
  induction ks with
  | nil => simp [thinL]
  | cons k ks ih => simp only [thinL, List.mem_cons, forall_eq_or_imp, ih]
end PNode
/-- What a sound tree tells is neither very wide nor very large. -/
theorem DT.WF.plain_fine {T : DT} (hW : T.WF) (hA : T.AB) : ∀ f i, (T.plainF f i).small ∧ (T.plainF f i).thin := by
  intro f
  induction f with
  | zero => intro i; unfold DT.plainF; unfold PNode.small PNode.thin; exact ⟨⟨by simp, by decide, trivial⟩, by simp, trivial⟩
  | succ f ih =>
    intro i
    unfold DT.plainF
    cases hi : T.at_ i with
    | none => dsimp only; unfold PNode.small PNode.thin; exact ⟨⟨by simp, by decide, trivial⟩, by simp, trivial⟩
    | some n =>
      dsimp only
      unfold PNode.small PNode.thin
      have h1 := hW.txt _ _ hi
      have h2 := kids_len hW hi
      have h3 := hW.nodes_le
      refine ⟨⟨hA _ _ hi, by omega, (PNode.smallL_iff _).2 fun k hk => ?_⟩, by rw [List.length_map]; omega, (PNode.thinL_iff _).2 fun k hk => ?_⟩
      · obtain ⟨j, _, rfl⟩ := List.mem_map.1 hk
        exact (ih j).1
      · obtain ⟨j, _, rfl⟩ := List.mem_map.1 hk
        exact (ih j).2
theorem DT.WF.plain_small {T : DT} (hW : T.WF) (hA : T.AB) (id : Int) : (T.plain id).small ∧ (T.plain id).thin := by
  unfold DT.plain
  split
  · exact hW.plain_fine hA _ _
  · unfold PNode.small PNode.thin; exact ⟨⟨by simp, by decide, trivial⟩, by simp, trivial⟩

/-- A kid's four cells. -/
theorem RowQ.kid {w : World} {R : Nat → Prop} {KA : Option Addr} {km kc : Nat} {ks : List VN} (h : RowQ w R 4 (.slice KA km kc) km (kidsCells ks)) {j : Nat} (hj : j < ks.length) :
    ∃ b off, KA = some ⟨b, off, none⟩ ∧ R b ∧ ∀ q, q < 4 → w.cell? ⟨b, off + j * 4 + q, none⟩ = (ks[j]).cells[q]? := by
  have hl : ks.length = km := by have := h.1; rw [kidsCells_length] at this; omega
  obtain ⟨b, off, cap, hv, _, _, hRb, hcell⟩ := h.open_ (by omega)
  injection hv with h1 _ _
  refine ⟨b, off, h1, hRb, fun q hq => ?_⟩
  have h2 := kidsCells_get ks j hj q hq
  obtain ⟨u, hu⟩ : ∃ u, (ks[j]).cells[q]? = some u := ⟨(ks[j]).cells[q]'(by rw [VN.cells_length]; exact hq), List.getElem?_eq_getElem _⟩
  rw [hu] at h2 ⊢
  rw [Nat.add_assoc]
  exact hcell _ _ h2

theorem VN.kid_open {w : World} {R : Nat → Prop} {V : VN} (h : PV w R V) : ∃ t al x a5 n5 c5 a6 n6 c6 ks, V = .mk t al x (.slice a5 n5 c5) (.slice a6 n6 c6) ks := by
  obtain ⟨t, al, x, av, kv, ks⟩ := V
  obtain ⟨a5, n5, c5, a6, n6, c6, rfl, rfl⟩ := VN.forms h
  exact ⟨_, _, _, _, _, _, _, _, _, _, rfl⟩

set_option maxHeartbeats 2000000 in
theorem sameNode_eq : ∀ (V : VN) (U : VN) (R R' : Nat → Prop) (w : World), PV w R V → PV w R' U → V.node = U.node → V.node.small → V.node.thin → (∀ b, R b → b < w.heap.size) → (∀ b, R' b → b < w.heap.size) →
    Calls Try.prog 41 #[V.agg, U.agg] w (Ret (.bool true) w) := by
  intro V
  induction V using VN.ind with
  | h t al x av kv ks ih =>
    intro U R R' w hP hQ heq hs ht hR hR'
    obtain ⟨t', al', x', av', kv', ks'⟩ := U
    rw [VN.node_mk, VN.node_mk] at heq
    rw [VN.node_mk] at hs ht
    injection heq with e1 e2 e3 e4
    subst e1 e2 e3
    unfold PNode.small at hs
    obtain ⟨hs1, hs2, hs3⟩ := hs
    unfold PNode.thin at ht
    obtain ⟨ht1, ht2⟩ := ht
    rw [List.length_map] at ht1
    cases hP with
    | mk ha hk hkids =>
      cases hQ with
      | mk ha' hk' hkids' =>
        have hlen : ks.length = ks'.length := by have := congrArg List.length e4; simpa using this
        obtain ⟨AA, ac, rfl, hac1, hac2, hA0⟩ := ha.form
        obtain ⟨KA, kc, rfl, hkc1, hkc2, hK0⟩ := hk.form
        obtain ⟨AA', ac', rfl, hac1', hac2', hA0'⟩ := ha'.form
        rw [← hlen] at hk'
        obtain ⟨KA', kc', rfl, hkc1', hkc2', hK0'⟩ := hk'.form
        have HS := Lib.hid (fun (W : World) (hb : Below w.heap.size w W) => sameAttrs_eq (ha.reads.keep hb) (ha'.reads.keep hb) (by omega))
        have HK := Lib.hid (And.intro hk (And.intro hkids (And.intro hs3 (And.intro hR (And.intro e4 ht2)))))
        have HK' := Lib.hid (And.intro hk' (And.intro hkids' (And.intro hR' hlen)))
        have IH := Lib.hid ih
        dsimp only [VN.agg]
        generalize hm : ks.length = m at *
        generalize ham : al.length = am at *
        have HM := Lib.hid (And.intro hm ham)
        have hml : (m : Int) ≤ 1000000 := by omega
        clear ha hk hkids ha' hk' hkids' hs1 hs2 hs3 hR hR' e4 ih hm ham hA0 hK0 hA0' hK0'
        clear hlen ht1 ht2
        go_enter Try.func41, Try.ntmps41
        go_wp2_with (((with_reducible refine (HS.out _ (by repeat (first | exact Below.refl _ _ | assumption | (refine Below.setCell ?_ (by first | (simp; done) | (simp; omega) | omega) _) | (refine Below.alloc ?_ (by first | (simp; done) | (simp; omega) | omega) _) | (refine Below.drew ?_) | (refine Below.drewN' ?_ _)))).mono ?_); rintro e w1 ⟨rfl, hb⟩; have hz_w1 := hb.size; (try simp only [World.size_alloc, World.size_setCell, World.size_drew, size_drewN'] at hz_w1); have k0_w1 : At w1 (w.heap.size) 41 #[I t, .slice AA am ac, .string x, .slice KA m kc] := At.keep (by (repeat' (first | (with_reducible assumption) | (with_reducible refine unhid ?_; with_reducible assumption) | (with_reducible refine At.fresh _ _ _ (by first | (simp; done) | (simp; omega) | omega)) | (with_reducible apply At.set') | (with_reducible apply At.far) | (with_reducible apply At.alloc) | (with_reducible apply At.drew) | (with_reducible apply At.drewN) | exact (rfl : Array.setIfInBounds _ _ _ = _) | (refine Ne.symm ?_; simp; done) | (show _ ≠ _; simp; done) | (show _ ≠ _; simp; omega) | (show _ ≠ _; omega))); (first | done | fail)) hb; have k0_w1c := At.cell k0_w1; have k0_w1f := At.frozen k0_w1; have k0_w1h := Lib.hid k0_w1; clear k0_w1; have k1_w1 : At w1 (w.heap.size + 1) 41 #[I t, .slice AA' am ac', .string x, .slice KA' m kc'] := At.keep (by (repeat' (first | (with_reducible assumption) | (with_reducible refine unhid ?_; with_reducible assumption) | (with_reducible refine At.fresh _ _ _ (by first | (simp; done) | (simp; omega) | omega)) | (with_reducible apply At.set') | (with_reducible apply At.far) | (with_reducible apply At.alloc) | (with_reducible apply At.drew) | (with_reducible apply At.drewN) | exact (rfl : Array.setIfInBounds _ _ _ = _) | (refine Ne.symm ?_; simp; done) | (show _ ≠ _; simp; done) | (show _ ≠ _; simp; omega) | (show _ ≠ _; omega))); (first | done | fail)) hb; have k1_w1c := At.cell k1_w1; have k1_w1f := At.frozen k1_w1; have k1_w1h := Lib.hid k1_w1; clear k1_w1; have hb_w1 : Below w.heap.size w w1 := Below.trans (by exact (by repeat (first | exact Below.refl _ _ | assumption | (refine Below.setCell ?_ (by first | (simp; done) | (simp; omega) | omega) _) | (refine Below.alloc ?_ (by first | (simp; done) | (simp; omega) | omega) _) | (refine Below.drew ?_) | (refine Below.drewN' ?_ _)))) (hb.mono (by first | (simp; done) | (simp; omega) | omega)); obtain ⟨hc_w1, hf_w1⟩ := bcell hb_w1; clear hb))
        have HB1 := Lib.hid hb_w1
        have B0 := k0_w1h.out
        have B1 := k1_w1h.out
        clear k0_w1c k0_w1f k0_w1h k1_w1c k1_w1f k1_w1h hb_w1 hc_w1 hf_w1
        have hz1 := HB1.out.size
        have HBx := Lib.hid (And.intro B0 B1)
        clear B0 B1
        go_loopw [5] (fun s5 wr => ∃ k : Nat, k ≤ m ∧ s5 = .int .i64 (k : Int) ∧ Hid (Below w1.heap.size w1 wr)) (fun s5 _ => m - (intOf s5).toNat)
        case atStart => exact ⟨0, Nat.zero_le _, rfl, Below.refl _ _⟩
        case round =>
          obtain ⟨k, hk, rfl, hbr⟩ := hrel
          have hbr1 : Below w.heap.size w wr := HB1.out.trans (hbr.out.mono hz1)
          have hzr := hbr1.size
          have b0 := HBx.out.1.keep hbr.out
          have b1 := HBx.out.2.keep hbr.out
          have b0c := b0.cell
          have b1c := b1.cell
          have b0l := b0.lt
          have b1l := b1.lt
          have HBR2 := Lib.hid hbr.out
          have HBr := Lib.hid (And.intro hbr1 (And.intro b0 b1))
          by_cases hlt : k < m
          · have hkl : k < ks.length := by have := HM.out.1; omega
            have hkl' : k < ks'.length := by have := HK'.out.2.2.2; have := HM.out.1; omega
            obtain ⟨c1, o1, rfl, hR1, hq⟩ := (HK.out.1.keep (fun b hb => hbr1.block b (HK.out.2.2.2.1 b hb))).kid hkl
            obtain ⟨c2, o2, rfl, hR2, hq'⟩ := (HK'.out.1.keep (fun b hb => hbr1.block b (HK'.out.2.2.1 b hb))).kid hkl'
            have hmem : ks[k] ∈ ks := List.getElem_mem hkl
            have hmem' : ks'[k] ∈ ks' := List.getElem_mem hkl'
            have hnode : (ks[k]).node = (ks'[k]).node := by
              have h1 := HK.out.2.2.2.2.1
              have h2 : (ks.map VN.node)[k]? = (ks'.map VN.node)[k]? := by rw [h1]
              simpa [List.getElem?_eq_getElem hkl, List.getElem?_eq_getElem hkl'] using h2
            have hPV := (HK.out.2.1 _ hmem).keepB hbr1 HK.out.2.2.2.1
            have hPU := (HK'.out.2.1 _ hmem').keepB hbr1 HK'.out.2.2.1
            have hsm : (ks[k]).node.small := (PNode.smallL_iff _).1 HK.out.2.2.1 _ (List.mem_map.2 ⟨_, hmem, rfl⟩)
            have hth : (ks[k]).node.thin := (PNode.thinL_iff _).1 HK.out.2.2.2.2.2 _ (List.mem_map.2 ⟨_, hmem, rfl⟩)
            have HI : Hid (∀ W, Below wr.heap.size wr W → Calls Try.prog 41 #[(ks[k]).agg, (ks'[k]).agg] W (Ret (.bool true) W)) := by
              intro W hb
              have hzW := hb.size
              have hb' : Below w.heap.size w W := hbr1.trans (hb.mono hzr)
              exact IH.out _ hmem _ R R' W ((HK.out.2.1 _ hmem).keepB hb' HK.out.2.2.2.1) ((HK'.out.2.1 _ hmem').keepB hb' HK'.out.2.2.1) hnode hsm hth (fun b hb1 => by have := HK.out.2.2.2.1 b hb1; omega) (fun b hb1 => by have := HK'.out.2.2.1 b hb1; omega)
            obtain ⟨kt, kal, kx, d1, d2, d3, d4, d5, d6, kks, hVk⟩ := VN.kid_open hPV
            obtain ⟨kt', kal', kx', d1', d2', d3', d4', d5', d6', kks', hUk⟩ := VN.kid_open hPU
            rw [hVk] at HI hq
            rw [hUk] at HI hq'
            simp only [VN.agg, VN.cells] at HI hq hq'
            have q0 := hq 0 (by omega)
            have q1 := hq 1 (by omega)
            have q2 := hq 2 (by omega)
            have q3 := hq 3 (by omega)
            have q0' := hq' 0 (by omega)
            have q1' := hq' 1 (by omega)
            have q2' := hq' 2 (by omega)
            have q3' := hq' 3 (by omega)
            simp at q0 q1 q2 q3 q0' q1' q2' q3'
            clear hq hq' hPV hPU hsm hth hnode hmem hmem' hkl hkl' hVk hUk hbr hbr1 b0 b1
            go_wp2_with fail
            (refine wp_region_quiet_below (by kernel_rfl) (by kernel_rfl) ?_; (repeat (go_big_quiet_step (exact quietRet (HI.out _ (below_regrown _ _ _))))); refine wpQuiet_nil ?_; intro w5 hw'; have hb := below_class hw'; clear hw'; have hz_w5 := hb.size; (try simp only [World.size_alloc, World.size_setCell, World.size_drew, size_drewN'] at hz_w5); have hb_w5 : Below wr.heap.size wr w5 := Below.trans (by exact (by repeat (first | exact Below.refl _ _ | assumption | (refine Below.setCell ?_ (by first | (simp; done) | (simp; omega) | omega) _) | (refine Below.alloc ?_ (by first | (simp; done) | (simp; omega) | omega) _) | (refine Below.drew ?_) | (refine Below.drewN' ?_ _)))) (hb.mono (by first | (simp; done) | (simp; omega) | omega)); obtain ⟨hc_w5, hf_w5⟩ := bcell hb_w5; clear hb)
            go_wp2_with fail
            exact ⟨⟨k + 1, by omega, by go_num, HBR2.out.trans (hb_w5.mono HBR2.out.size)⟩, by simp [intOf]; omega⟩
          · have hkm : k = m := by omega
            subst hkm
            clear b0 b1
            go_wp2_with fail
            go_ret
            exact ⟨rfl, HBr.out.1⟩
end Go.Proofs.Ytnnjlpkjpbbklaa

-- Weigh: weigh of chapter 8's statements. Conditions: the plain tree lies in memory.
namespace Go.Proofs.Ytnnjlpkjpbbklaa
open Go.RowKit

namespace PNode
mutual
def weigh : PNode → Int → Int
  | .mk _ a x ks, left => if 20000 < x.size ∨ 200 < a.length then -1 else weighL ks (left - 1 - (a.length : Int) - ((x.size / 64 : Nat) : Int))
def weighL : List PNode → Int → Int
  | [], left => left
  | k :: ks, left => if left < 0 then left else weighL ks (weigh k left)
end
theorem weighL_cons (k : PNode) (ks : List PNode) (left : Int) : weighL (k :: ks) left = if left < 0 then left else weighL ks (weigh k left) := rfl
theorem weighL_neg (ks : List PNode) {left : Int} (h : left < 0) : weighL ks left = left := by
  cases ks with
  | nil => rfl
  | cons k ks => rw [weighL_cons, if_pos h]
theorem weighL_append (l : List PNode) (k : PNode) (left : Int) : weighL (l ++ [k]) left = if weighL l left < 0 then weighL l left else weigh k (weighL l left) := by
  induction l generalizing left with
  | nil => rfl
  | cons x l ih =>
    rw [List.cons_append, weighL_cons, weighL_cons]
    split
    · rfl
    · exact ih _
theorem weighL_stop (l r : List PNode) (left : Int) (h : weighL l left < 0) : weighL (l ++ r) left = weighL l left := by
  induction l generalizing left with
  | nil => exact weighL_neg r h
  | cons x l ih =>
    rw [List.cons_append, weighL_cons, weighL_cons]
    rw [weighL_cons] at h
    split
    · rfl
    · rename_i hl
      rw [if_neg hl] at h
      exact ih _ h
theorem weigh_bd : ∀ (n : PNode) (left : Int), -600 ≤ left → -1200 ≤ n.weigh left ∧ (n.weigh left ≤ left - 1 ∨ n.weigh left = -1) ∧ (0 ≤ left → -600 ≤ n.weigh left ∧ n.weigh left ≤ left - 1) := by
  intro n
  induction n using ind with
  | h t a x ks ih =>
    intro left hl
    unfold weigh
    split
    · exact ⟨by omega, .inr rfl, fun h => ⟨by omega, by omega⟩⟩
    · rename_i h
      simp only [not_or, Nat.not_lt] at h
      have key : ∀ (ks : List PNode) (l : Int), (∀ k ∈ ks, ∀ left : Int, -600 ≤ left → -1200 ≤ k.weigh left ∧ (k.weigh left ≤ left - 1 ∨ k.weigh left = -1) ∧ (0 ≤ left → -600 ≤ k.weigh left ∧ k.weigh left ≤ left - 1)) → weighL ks l ≤ l ∧ (l < 0 → weighL ks l = l) ∧ (0 ≤ l → -600 ≤ weighL ks l) := by
        intro ks
        induction ks with
        | nil => intro l _; exact ⟨Int.le_refl _, fun _ => rfl, fun h => by show -600 ≤ l; omega⟩
        | cons k ks ih2 =>
          intro l ih
          rw [weighL_cons]
          split
          · exact ⟨Int.le_refl _, fun _ => rfl, fun h => by omega⟩
          · rename_i hl
            have h1 := ih k (by simp) l (by omega)
            have h2 := h1.2.2 (by omega)
            obtain ⟨a1, a2, a3⟩ := ih2 (k.weigh l) (fun k' hk' => ih k' (by simp [hk']))
            refine ⟨by omega, fun h => by omega, fun _ => ?_⟩
            by_cases h0 : k.weigh l < 0
            · rw [a2 h0]; exact h2.1
            · exact a3 (by omega)
      have hx : ((x.size / 64 : Nat) : Int) ≤ 312 := by omega
      have hx0 : (0 : Int) ≤ ((x.size / 64 : Nat) : Int) := by omega
      obtain ⟨k1, k2, k3⟩ := key ks (left - 1 - (a.length : Int) - ((x.size / 64 : Nat) : Int)) ih
      generalize ((x.size / 64 : Nat) : Int) = xq at *
      by_cases h0 : left - 1 - (a.length : Int) - xq < 0
      · rw [k2 h0]
        exact ⟨by omega, .inl (by omega), fun h => ⟨by omega, by omega⟩⟩
      · have := k3 (by omega)
        exact ⟨by omega, .inl (by omega), fun h => ⟨by omega, by omega⟩⟩
theorem weigh_ok : ∀ (n : PNode) (left : Int), left ≤ 1000000 → 0 ≤ n.weigh left → n.small ∧ n.thin ∧ (n.size : Int) + n.weigh left ≤ left := by
  intro n
  induction n using ind with
  | h t a x ks ih =>
    intro left hl h
    unfold weigh at h ⊢
    split at h
    · omega
    · rename_i hb
      rw [if_neg hb]
      simp only [not_or, Nat.not_lt] at hb
      have key : ∀ (ks : List PNode) (l : Int), (∀ k ∈ ks, ∀ left : Int, left ≤ 1000000 → 0 ≤ k.weigh left → k.small ∧ k.thin ∧ (k.size : Int) + k.weigh left ≤ left) → l ≤ 1000000 → 0 ≤ weighL ks l → smallL ks ∧ thinL ks ∧ (sizeL ks : Int) + weighL ks l ≤ l := by
        intro ks
        induction ks with
        | nil => intro l _ _ _; exact ⟨trivial, trivial, by show (0 : Int) + l ≤ l; omega⟩
        | cons k ks ih2 =>
          intro l ih hl h
          rw [weighL_cons] at h ⊢
          split at h
          · omega
          · rename_i h0
            rw [if_neg h0]
            have hk0 : 0 ≤ k.weigh l := by
              by_cases e : k.weigh l < 0
              · rw [weighL_neg ks e] at h; omega
              · omega
            obtain ⟨a1, a2, a3⟩ := ih k (by simp) l hl hk0
            obtain ⟨b1, b2, b3⟩ := ih2 (k.weigh l) (fun k' hk' => ih k' (by simp [hk'])) (by omega) h
            rw [sizeL_cons]
            exact ⟨⟨a1, b1⟩, ⟨a2, b2⟩, by omega⟩
      have hx0 : (0 : Int) ≤ ((x.size / 64 : Nat) : Int) := by omega
      obtain ⟨k1, k2, k3⟩ := key ks _ ih (by omega) h
      have hkl := sizeL_length ks
      unfold small thin size
      refine ⟨⟨by omega, by omega, k1⟩, ⟨by omega, k2⟩, ?_⟩
      generalize ((x.size / 64 : Nat) : Int) = xq at *
      omega
end PNode

set_option maxHeartbeats 2000000 in
theorem weigh_any : ∀ (V : VN) (R : Nat → Prop) (w : World) (left : Int), PV w R V → (∀ b, R b → b < w.heap.size) → -600 ≤ left → left ≤ 1000000 → Calls Try.prog 45 #[V.agg, I left] w (Ret (I (V.node.weigh left)) w) := by
  intro V
  induction V using VN.ind with
  | h t al x av kv ks ih =>
    intro R w left hP hR hl0 hl1
    rw [VN.node_mk]
    cases hP with
    | mk ha hk hkids =>
      obtain ⟨AA, ac, rfl, hac1, hac2, hA0⟩ := ha.form
      obtain ⟨KA, kc, rfl, hkc1, hkc2, hK0⟩ := hk.form
      dsimp only [VN.agg]
      unfold PNode.weigh
      have hml : ks.length ≤ maxLen := by omega
      have haml : al.length ≤ maxLen := by omega
      have HK := Lib.hid (And.intro hk (And.intro hkids hR))
      have IH := Lib.hid ih
      clear ha hk hkids hR ih hA0 hK0
      generalize ham : al.length = am at *
      have HAM := Lib.hid ham
      generalize hm : ks.length = m at *
      have HM := Lib.hid hm
      clear ham hm
      by_cases hx : 20000 < x.size
      · have c1 : decide (20000 < (x.size : Int)) = true := by simp; omega
        have c1' : decide (20000 < x.size) = true := by simp; omega
        rw [if_pos (.inl hx)]
        clear hx
        go_enter Try.func45, Try.ntmps45
        go_wp2_with fail
        go_ret
        exact ⟨rfl, (by repeat (first | exact Below.refl _ _ | assumption | (refine Below.setCell ?_ (by first | (simp; done) | (simp; omega) | omega) _) | (refine Below.alloc ?_ (by first | (simp; done) | (simp; omega) | omega) _) | (refine Below.drew ?_) | (refine Below.drewN' ?_ _)))⟩
      · have c1 : decide (20000 < (x.size : Int)) = false := by simp; omega
        have c1' : decide (20000 < x.size) = false := by simp; omega
        by_cases ha : 200 < am
        · have c2 : decide (200 < (am : Int)) = true := by simp; omega
          have c2' : decide (200 < am) = true := by simp; omega
          rw [if_pos (.inr ha)]
          clear ha hx
          go_enter Try.func45, Try.ntmps45
          go_wp2_with fail
          go_ret
          exact ⟨rfl, (by repeat (first | exact Below.refl _ _ | assumption | (refine Below.setCell ?_ (by first | (simp; done) | (simp; omega) | omega) _) | (refine Below.alloc ?_ (by first | (simp; done) | (simp; omega) | omega) _) | (refine Below.drew ?_) | (refine Below.drewN' ?_ _)))⟩
        · have c2 : decide (200 < (am : Int)) = false := by simp; omega
          have c2' : decide (200 < am) = false := by simp; omega
          rw [if_neg (by simp only [not_or]; exact ⟨hx, ha⟩)]
          have hx2 : x.size ≤ 20000 := by omega
          have ha2 : am ≤ 200 := by omega
          clear hx ha
          go_enter Try.func45, Try.ntmps45
          go_wp2_with fail
          have hL0 : -1200 ≤ left - 1 - (am : Int) - (x.size : Int) / 64 ∧ left - 1 - (am : Int) - (x.size : Int) / 64 ≤ 1000000 := by omega
          have eL : left - 1 - (am : Int) - ((x.size / 64 : Nat) : Int) = left - 1 - (am : Int) - (x.size : Int) / 64 := by omega
          have HEL : Hid (left - 1 - (am : Int) - ((x.size / 64 : Nat) : Int) = left - 1 - (am : Int) - (x.size : Int) / 64) := eL
          clear eL
          generalize left - 1 - (am : Int) - (x.size : Int) / 64 = L at *
          go_loopw [1, 5] (fun s1 s5 wr => ∃ (k : Nat) (v : Int), k ≤ m ∧ s5 = .int .i64 (k : Int) ∧ s1 = .int .i64 v ∧ -1200 ≤ v ∧ v + k ≤ L ∧ Hid (v = PNode.weighL ((ks.take k).map VN.node) L) ∧ Hid (Below w.heap.size w wr) ∧ Hid (At wr w.heap.size 41 #[I t, .slice AA am ac, .string x, .slice KA m kc])) (fun _ s5 _ => m - (intOf s5).toNat)
          case atStart => exact ⟨0, L, Nat.zero_le _, rfl, rfl, hL0.1, by simp, rfl, (by repeat (first | exact Below.refl _ _ | assumption | (refine Below.setCell ?_ (by first | (simp; done) | (simp; omega) | omega) _) | (refine Below.alloc ?_ (by first | (simp; done) | (simp; omega) | omega) _) | (refine Below.drew ?_) | (refine Below.drewN' ?_ _))), At.fresh _ _ _ rfl⟩
          case round =>
            obtain ⟨k, v, hk, rfl, rfl, hv1, hv2, hv, hbr, hbx⟩ := hrel
            have bxc := hbx.out.cell
            have bxl := hbx.out.lt
            have hzr := hbr.out.size
            by_cases hlt : k < m
            · by_cases hv0 : 0 ≤ v
              · have hkl : k < ks.length := by have := HM.out; omega
                obtain ⟨c1, o1, rfl, hR1, hq⟩ := (HK.out.1.keep (fun b hb => hbr.out.block b (HK.out.2.2 b hb))).kid hkl
                have hmem : ks[k] ∈ ks := List.getElem_mem hkl
                have hPV := (HK.out.2.1 _ hmem).keepB hbr.out HK.out.2.2
                have hbd := PNode.weigh_bd (ks[k]).node v (by omega)
                have HI : Hid (∀ W, Below wr.heap.size wr W → Calls Try.prog 45 #[(ks[k]).agg, I v] W (Ret (I ((ks[k]).node.weigh v)) W)) := by
                  intro W hb
                  have hzW := hb.size
                  exact IH.out _ hmem R W v (hPV.keepB hb fun b hb1 => by have := HK.out.2.2 b hb1; omega) (fun b hb1 => by have := HK.out.2.2 b hb1; omega) (by omega) (by omega)
                have e1 : (ks.take (k + 1)).map VN.node = (ks.take k).map VN.node ++ [(ks[k]).node] := by rw [List.take_add_one, List.getElem?_eq_getElem hkl, List.map_append]; rfl
                have hn : (ks[k]).node.weigh v = PNode.weighL ((ks.take (k + 1)).map VN.node) L := by
                  rw [e1, PNode.weighL_append, ← hv.out, if_neg (by omega)]
                have HN := Lib.hid hn
                obtain ⟨kt, kal, kx, d1, d2, d3, d4, d5, d6, kks, hVk⟩ := VN.kid_open hPV
                generalize hwv : (ks[k]).node.weigh v = v' at *
                rw [hVk] at HI hq
                simp only [VN.agg, VN.cells] at HI hq
                have q0 := hq 0 (by omega)
                have q1 := hq 1 (by omega)
                have q2 := hq 2 (by omega)
                have q3 := hq 3 (by omega)
                simp at q0 q1 q2 q3
                have hb3 := hbd.2.2 hv0
                have hlt1 : (k : Int) < (m : Int) := by omega
                clear hq hPV hmem hkl hVk hn hwv e1 hbd
                go_wp2_with (((with_reducible refine (HI.out _ (Below.refl _ _)).mono ?_); rintro e w5 ⟨rfl, hb⟩; have hz_w5 := hb.size; (try simp only [World.size_alloc, World.size_setCell, World.size_drew, size_drewN'] at hz_w5); have k0_w5 : At w5 (w.heap.size) 41 #[I t, .slice AA am ac, .string x, .slice (some ⟨c1, o1, none⟩) m kc] := At.keep (by (repeat' (first | (with_reducible assumption) | (with_reducible refine unhid ?_; with_reducible assumption) | (with_reducible refine At.fresh _ _ _ (by first | (simp; done) | (simp; omega) | omega)) | (with_reducible apply At.set') | (with_reducible apply At.far) | (with_reducible apply At.alloc) | (with_reducible apply At.drew) | (with_reducible apply At.drewN) | exact (rfl : Array.setIfInBounds _ _ _ = _) | (refine Ne.symm ?_; simp; done) | (show _ ≠ _; simp; done) | (show _ ≠ _; simp; omega) | (show _ ≠ _; omega))); (first | done | fail)) hb; have k0_w5c := At.cell k0_w5; have k0_w5f := At.frozen k0_w5; have k0_w5h := Lib.hid k0_w5; clear k0_w5; have hb_w5 : Below wr.heap.size wr w5 := Below.trans (by exact (by repeat (first | exact Below.refl _ _ | assumption | (refine Below.setCell ?_ (by first | (simp; done) | (simp; omega) | omega) _) | (refine Below.alloc ?_ (by first | (simp; done) | (simp; omega) | omega) _) | (refine Below.drew ?_) | (refine Below.drewN' ?_ _)))) (hb.mono (by first | (simp; done) | (simp; omega) | omega)); obtain ⟨hc_w5, hf_w5⟩ := bcell hb_w5; clear hb))
                refine ⟨⟨k + 1, v', by omega, by go_num, rfl, by omega, by omega, HN, hbr.out.trans (hb_w5.mono hzr), k0_w5h⟩, by simp [intOf]; omega⟩
              · have hd : decide (0 ≤ v) = false := by simp; omega
                have hlt1 : (k : Int) < (m : Int) := by omega
                have hn : v = PNode.weighL (ks.map VN.node) L := by
                  have h1 : ks.map VN.node = (ks.take k).map VN.node ++ (ks.drop k).map VN.node := by rw [← List.map_append, List.take_append_drop]
                  rw [h1, PNode.weighL_stop _ _ _ (by rw [← hv.out]; omega)]
                  exact hv.out
                have HN := Lib.hid hn
                clear hn hv0
                go_wp2_with fail
                go_ret
                exact ⟨ret_int (by rw [HEL.out]; exact HN.out), hbr.out⟩
            · have hkm : k = m := by omega
              subst hkm
              have hn : v = PNode.weighL (ks.map VN.node) L := by
                rw [hv.out, List.take_of_length_le (by have := HM.out; omega)]
              have HN := Lib.hid hn
              clear hn
              go_wp2_with fail
              go_ret
              exact ⟨ret_int (by rw [HEL.out]; exact HN.out), hbr.out⟩
end Go.Proofs.Ytnnjlpkjpbbklaa

-- Calls: A row of chapter 8's calls as it lies in memory; Heavy. Conditions: the row lies in memory.
namespace Go.Proofs.Ytnnjlpkjpbbklaa
open Go.RowKit

/-- A call, and where its slices lie. -/
structure CN where
  what : Int
  a : Int
  b : Int
  c : Int
  s : Bytes
  attrs : List (Bytes × Bytes)
  av : Value
  n : VN
def CN.cells (c : CN) : List Value := [I c.what, I c.a, I c.b, I c.c, .string c.s, c.av] ++ c.n.cells
def CN.call (c : CN) : PCall := ⟨c.what, c.a, c.b, c.c, c.s, c.attrs, c.n.node⟩
theorem CN.cells_length (c : CN) : c.cells.length = 10 := by simp [CN.cells, VN.cells_length]
def callsCells (l : List CN) : List Value := l.flatMap CN.cells
theorem callsCells_length (l : List CN) : (callsCells l).length = l.length * 10 := by
  induction l with
  | nil => rfl
  | cons k ks ih => simp only [callsCells, List.flatMap_cons, List.length_append, List.length_cons, CN.cells_length] at *; omega
theorem callsCells_get : ∀ (l : List CN) (i : Nat) (hi : i < l.length) (c : Nat), c < 10 → (callsCells l)[i * 10 + c]? = (l[i]).cells[c]? := by
  intro l
  induction l with
  | nil => intro i hi; simp at hi
  | cons k ks ih =>
    intro i hi c hc
    have hk := CN.cells_length k
    show (k.cells ++ callsCells ks)[i * 10 + c]? = _
    cases i with
    | zero => rw [List.getElem?_append_left (by omega)]; simp
    | succ i =>
      rw [List.getElem?_append_right (by omega)]
      rw [show (i + 1) * 10 + c - k.cells.length = i * 10 + c by omega, ih i (by simpa using hi) c hc]
      simp

/-- A row of calls lies there, in blocks of R. -/
structure CallsAt (w : World) (R : Nat → Prop) (v : Value) (l : List CN) : Prop where
  row : RowQ w R 10 v l.length (callsCells l)
  attrs : ∀ c ∈ l, RowQ w R 2 c.av c.attrs.length (attrCells c.attrs)
  node : ∀ c ∈ l, PV w R c.n
theorem CallsAt.keep {w w' : World} {R : Nat → Prop} {v : Value} {l : List CN} (h : CallsAt w R v l) (hk : ∀ b, R b → w'.heap[b]? = w.heap[b]?) : CallsAt w' R v l :=
  ⟨h.row.keep hk, fun c hc => (h.attrs c hc).keep hk, fun c hc => (h.node c hc).keep hk⟩
/-- One call's ten cells. -/
theorem CallsAt.get {w : World} {R : Nat → Prop} {v : Value} {l : List CN} (h : CallsAt w R v l) {j : Nat} (hj : j < l.length) :
    ∃ b off cap, v = .slice (some ⟨b, off, none⟩) l.length cap ∧ R b ∧ ∀ q, q < 10 → w.cell? ⟨b, off + j * 10 + q, none⟩ = (l[j]).cells[q]? := by
  obtain ⟨b, off, cap, hv, _, _, hRb, hcell⟩ := h.row.open_ (by omega)
  refine ⟨b, off, cap, hv, hRb, fun q hq => ?_⟩
  have h2 := callsCells_get l j hj q hq
  obtain ⟨u, hu⟩ : ∃ u, (l[j]).cells[q]? = some u := ⟨(l[j]).cells[q]'(by rw [CN.cells_length]; exact hq), List.getElem?_eq_getElem _⟩
  rw [hu] at h2 ⊢
  rw [Nat.add_assoc]
  exact hcell _ _ h2

/-- What is handed in in calls is not too much. -/
def heavyL : List PCall → Int → Bool
  | [], left => decide (left < 0)
  | c :: l, left => if left < 0 then true else if 20000 < c.s.size ∨ 200 < c.attrs.length then true else heavyL l (c.n.weigh (left - (c.attrs.length : Int) - ((c.s.size / 64 : Nat) : Int)))
def heavy (l : List PCall) : Bool := if 200 < l.length then true else heavyL l 4000
/-- A call that is not too much. -/
structure Light (c : PCall) : Prop where
  s : c.s.size ≤ 20000
  attrs : c.attrs.length ≤ 200
  small : c.n.small
  thin : c.n.thin
  size : c.n.size ≤ 5000
theorem heavyL_cons (c : PCall) (l : List PCall) (left : Int) : heavyL (c :: l) left = if left < 0 then true else if 20000 < c.s.size ∨ 200 < c.attrs.length then true else heavyL l (c.n.weigh (left - (c.attrs.length : Int) - ((c.s.size / 64 : Nat) : Int))) := rfl
theorem heavyL_light : ∀ (l : List PCall) (left : Int), left ≤ 4000 → heavyL l left = false → ∀ c ∈ l, Light c := by
  intro l
  induction l with
  | nil => intro left _ _ c hc; cases hc
  | cons x l ih =>
    intro left hl h
    unfold heavyL at h
    split at h
    · cases h
    · split at h
      · cases h
      · rename_i h1 h2
        simp only [not_or, Nat.not_lt] at h2
        have hx0 : (0 : Int) ≤ ((x.s.size / 64 : Nat) : Int) := by omega
        have hw : 0 ≤ x.n.weigh (left - (x.attrs.length : Int) - ((x.s.size / 64 : Nat) : Int)) := by
          by_cases e : x.n.weigh (left - (x.attrs.length : Int) - ((x.s.size / 64 : Nat) : Int)) < 0
          · cases l with
            | nil => unfold heavyL at h; rw [decide_eq_false_iff_not] at h; exact absurd e h
            | cons y l => unfold heavyL at h; rw [if_pos e] at h; cases h
          · omega
        obtain ⟨k1, k2, k3⟩ := PNode.weigh_ok x.n _ (by omega) hw
        intro c hc
        rcases List.mem_cons.1 hc with rfl | hc
        · exact ⟨h2.1, h2.2, k1, k2, by omega⟩
        · exact ih _ (by omega) h c hc
theorem heavy_light {l : List PCall} (h : heavy l = false) : l.length ≤ 200 ∧ ∀ c ∈ l, Light c := by
  unfold heavy at h
  split at h
  · cases h
  · exact ⟨by omega, heavyL_light l 4000 (by omega) h⟩
theorem heavyL_neg (l : List PCall) {left : Int} (h : left < 0) : heavyL l left = true := by
  cases l with
  | nil => simp [heavyL, h]
  | cons x l => unfold heavyL; rw [if_pos h]

set_option maxHeartbeats 2000000 in
theorem heavy_any {w : World} {R : Nat → Prop} {v : Value} {l : List CN} (h : CallsAt w R v l) (hR : ∀ b, R b → b < w.heap.size) :
    Calls Try.prog 30 #[v] w (Ret (.bool (heavy (l.map CN.call))) w) := by
  obtain ⟨A, cap, hv, hcap, hmx, hA⟩ := h.row.form
  have hlm : l.length ≤ maxLen := by omega
  unfold heavy
  rw [List.length_map]
  by_cases hlen : 200 < l.length
  · rw [if_pos hlen]
    have c1 : decide (200 < (l.length : Int)) = true := by simp; omega
    have c1' : decide (200 < l.length) = true := by simp; omega
    subst hv
    clear h hA hlen
    generalize l.length = n at *
    go_enter Try.func30, Try.ntmps30
    go_wp2_with fail
    go_ret
    exact ⟨rfl, (by repeat (first | exact Below.refl _ _ | assumption | (refine Below.setCell ?_ (by first | (simp; done) | (simp; omega) | omega) _) | (refine Below.alloc ?_ (by first | (simp; done) | (simp; omega) | omega) _) | (refine Below.drew ?_) | (refine Below.drewN' ?_ _)))⟩
  · rw [if_neg hlen]
    have c1 : decide (200 < (l.length : Int)) = false := by simp; omega
    have c1' : decide (200 < l.length) = false := by simp; omega
    have hn200 : l.length ≤ 200 := by omega
    have HG : Hid (∀ (wr : World), Below w.heap.size w wr → ∀ j (hj : j < l.length), ∃ b off, A = some ⟨b, off, none⟩ ∧ R b ∧ ∀ q, q < 10 → wr.cell? ⟨b, off + j * 10 + q, none⟩ = (l[j]).cells[q]?) := by
      intro wr hb j hj
      obtain ⟨b, off, c', hv', hRb, hc⟩ := (h.keep fun b hb1 => hb.block b (hR b hb1)).get hj
      rw [hv] at hv'
      injection hv' with e1 _ _
      exact ⟨b, off, e1, hRb, hc⟩
    subst hv
    have HH := Lib.hid (And.intro h hR)
    clear h hR hA hlen
    obtain ⟨n, hn⟩ : ∃ n, n = l.length := ⟨_, rfl⟩
    rw [← hn] at hcap hlm c1 c1' hn200 ⊢
    have HN := Lib.hid hn
    clear hn
    go_enter Try.func30, Try.ntmps30
    go_wp2_with fail
    go_loopw [3, 4] (fun s3 s4 wr => ∃ (k : Nat) (v : Int), k ≤ n ∧ s4 = .int .i64 (k : Int) ∧ s3 = .int .i64 v ∧ -1200 ≤ v ∧ v ≤ 4000 ∧ Hid (heavyL ((l.drop k).map CN.call) v = heavyL (l.map CN.call) 4000) ∧ Hid (Below w.heap.size w wr)) (fun _ s4 _ => n - (intOf s4).toNat)
    case atStart => exact ⟨0, 4000, Nat.zero_le _, rfl, rfl, by omega, by omega, rfl, Below.refl _ _⟩
    case round =>
      obtain ⟨k, v, hk, rfl, rfl, hv1, hv2, hv, hbr⟩ := hrel
      have hzr := hbr.out.size
      by_cases hlt : k < n
      · have hlt1 : (k : Int) < (n : Int) := by omega
        have hkl : k < l.length := by have := HN.out; omega
        have hdrop : (l.drop k).map CN.call = (l[k]).call :: (l.drop (k + 1)).map CN.call := by rw [List.drop_eq_getElem_cons hkl]; rfl
        by_cases hv0 : 0 ≤ v
        · obtain ⟨b, off, rfl, hRb, hq⟩ := HG.out wr hbr.out k hkl
          have hmem : l[k] ∈ l := List.getElem_mem hkl
          have hAt := HH.out.1.attrs _ hmem
          have hPV := HH.out.1.node _ hmem
          have hstep := hv.out
          rw [hdrop] at hstep
          rw [heavyL_cons, if_neg (by omega)] at hstep
          have hbd : -600 ≤ v - ((l[k]).attrs.length : Int) - (((l[k]).s.size / 64 : Nat) : Int) ∨ 200 < (l[k]).attrs.length ∨ 20000 < (l[k]).s.size := by omega
          have HWe : Hid (∀ (W : World) (v2 : Int), Below wr.heap.size wr W → -600 ≤ v2 → v2 ≤ 1000000 → Calls Try.prog 45 #[(l[k]).n.agg, I v2] W (Ret (I ((l[k]).n.node.weigh v2)) W)) := by
            intro W v2 hb h1 h2
            have hzW := hb.size
            exact weigh_any _ R W v2 ((hPV.keepB hbr.out HH.out.2).keepB hb fun b hb1 => by have := HH.out.2 b hb1; omega) (fun b hb1 => by have := HH.out.2 b hb1; omega) h1 h2
          have hbd2 := PNode.weigh_bd (l[k]).n.node
          have q : ∀ q, q < 10 → wr.cell? ⟨b, off + k * 10 + q, none⟩ = (l[k]).cells[q]? := hq
          obtain ⟨aA, aC, hav, ha1, ha2, -⟩ := hAt.form
          have hPV2 := hPV
          clear hq hdrop hAt hPV
          revert hstep hbd HWe hbd2 q hav ha1 ha2 hPV2
          generalize l[k] = C
          intro hstep hbd HWe hbd2 q hav ha1 ha2 hPV2
          obtain ⟨cw, ca, cb, cc, cs, cal, cav, cn⟩ := C
          obtain ⟨kt, kal, kx, d1, d2, d3, d4, d5, d6, kks, rfl⟩ := VN.kid_open hPV2
          dsimp only at hav ha1 ha2 hstep hbd HWe hbd2
          subst hav
          simp only [CN.cells, VN.cells, VN.agg, List.cons_append, List.nil_append] at q HWe
          have q4 := q 4 (by omega)
          have q5 := q 5 (by omega)
          have q6 := q 6 (by omega)
          have q7 := q 7 (by omega)
          have q8 := q 8 (by omega)
          have q9 := q 9 (by omega)
          simp at q4 q5 q6 q7 q8 q9
          simp only [CN.call] at hstep
          have haml : cal.length ≤ maxLen := by omega
          clear q hPV2 hmem hkl
          generalize hndd : (VN.mk kt kal kx (Value.slice d1 d2 d3) (Value.slice d4 d5 d6) kks).node = nd at *
          clear hndd
          by_cases hs : 20000 < cs.size
          · replace hstep : true = heavyL (l.map CN.call) 4000 := by rw [← hstep]; simp [hs]
            have d1 : decide (20000 < (cs.size : Int)) = true := by simp; omega
            have d1' : decide (20000 < cs.size) = true := by simp; omega
            have HSt := Lib.hid hstep
            clear hs hstep hbd hbd2
            go_wp2_with fail
            go_ret
            exact ⟨ret_bool HSt.out, hbr.out⟩
          · have d1 : decide (20000 < (cs.size : Int)) = false := by simp; omega
            have d1' : decide (20000 < cs.size) = false := by simp; omega
            by_cases ha : 200 < cal.length
            · replace hstep : true = heavyL (l.map CN.call) 4000 := by rw [← hstep]; simp [ha]
              have d2 : decide (200 < (cal.length : Int)) = true := by simp; omega
              have d2' : decide (200 < cal.length) = true := by simp; omega
              have HSt := Lib.hid hstep
              clear hs ha hstep hbd hbd2
              generalize cal.length = am at *
              go_wp2_with fail
              go_ret
              exact ⟨ret_bool HSt.out, hbr.out⟩
            · replace hstep : heavyL ((l.drop (k + 1)).map CN.call) (nd.weigh (v - (cal.length : Int) - ((cs.size / 64 : Nat) : Int))) = heavyL (l.map CN.call) 4000 := by rw [← hstep]; simp [hs, ha]
              have d2 : decide (200 < (cal.length : Int)) = false := by simp; omega
              have d2' : decide (200 < cal.length) = false := by simp; omega
              have ha2' : cal.length ≤ 200 := by omega
              have hs2' : cs.size ≤ 20000 := by omega
              generalize cal.length = am at *
              have hv2' : -600 ≤ v - (am : Int) - (cs.size : Int) / 64 ∧ v - (am : Int) - (cs.size : Int) / 64 ≤ 4000 := by omega
              have e2 : v - (am : Int) - ((cs.size / 64 : Nat) : Int) = v - (am : Int) - (cs.size : Int) / 64 := by omega
              rw [e2] at hstep
              have hbd3 := hbd2 (v - (am : Int) - (cs.size : Int) / 64) hv2'.1
              have HWk := Lib.hid (fun (W : World) (hb : Below wr.heap.size wr W) => HWe.out W (v - (am : Int) - (cs.size : Int) / 64) hb (by omega) (by omega))
              have hbd4 : -1200 ≤ nd.weigh (v - (am : Int) - (cs.size : Int) / 64) ∧ nd.weigh (v - (am : Int) - (cs.size : Int) / 64) ≤ 4000 := by omega
              clear hs ha hbd hbd2 hbd3 e2 HWe
              generalize nd.weigh (v - (am : Int) - (cs.size : Int) / 64) = v' at *
              have HSt := Lib.hid hstep
              clear hstep
              go_wp2_with fail
              (refine wp_region_quiet_below (by kernel_rfl) (by kernel_rfl) ?_; (repeat (go_big_quiet_step (exact quietRet (HWk.out _ (below_regrown _ _ _))))); refine wpQuiet_nil ?_; intro w5 hw'; have hb := below_class hw'; clear hw'; have hz_w5 := hb.size; (try simp only [World.size_alloc, World.size_setCell, World.size_drew, size_drewN'] at hz_w5); have hb_w5 : Below wr.heap.size wr w5 := Below.trans (by exact (by repeat (first | exact Below.refl _ _ | assumption | (refine Below.setCell ?_ (by first | (simp; done) | (simp; omega) | omega) _) | (refine Below.alloc ?_ (by first | (simp; done) | (simp; omega) | omega) _) | (refine Below.drew ?_) | (refine Below.drewN' ?_ _)))) (hb.mono (by first | (simp; done) | (simp; omega) | omega)); obtain ⟨hc_w5, hf_w5⟩ := bcell hb_w5; clear hb)
              go_wp2_with fail
              exact ⟨⟨k + 1, v', by omega, by go_num, rfl, by omega, by omega, HSt, hbr.out.trans (hb_w5.mono hzr)⟩, by simp [intOf]; omega⟩
        · have hd : decide (0 ≤ v) = false := by simp; omega
          have hd2 : decide (v < 0) = true := by simp; omega
          have hn : true = heavyL (l.map CN.call) 4000 := by rw [← hv.out, heavyL_neg _ (by omega)]
          have HNn := Lib.hid hn
          clear hn hv0 hdrop hkl
          go_wp2_with fail
          go_ret
          exact ⟨ret_bool HNn.out, hbr.out⟩
      · have hkm : k = n := by omega
        subst hkm
        have hn : decide (v < 0) = heavyL (l.map CN.call) 4000 := by
          rw [← hv.out, List.drop_of_length_le (by have := HN.out; omega)]
          rfl
        have HNn := Lib.hid hn
        clear hn
        go_wp2_with fail
        go_ret
        exact ⟨ret_bool HNn.out, hbr.out⟩
end Go.Proofs.Ytnnjlpkjpbbklaa

-- Played: Played of chapter 8's statements. Conditions: the calls lie in memory, and are not too much.
namespace Go.Proofs.Ytnnjlpkjpbbklaa
open Go.RowKit

theorem tmod_digit (a : Int) : ((a.tmod 10 + 10).tmod 10) = a % 10 := by
  have h1 : a.tmod 10 = a % 10 ∨ a.tmod 10 = a % 10 - 10 := by
    rcases Int.lt_or_le a 0 with h | h
    · have h2 := Int.tmod_eq_emod (a := a) (b := 10)
      split at h2
      · left; omega
      · right; simpa using h2
    · left; exact Int.tmod_eq_emod_of_nonneg h
  have h3 : 0 ≤ a % 10 ∧ a % 10 < 10 := by omega
  rcases h1 with h1 | h1
  · rw [h1, Int.tmod_eq_emod_of_nonneg (by omega)]; omega
  · rw [h1, Int.tmod_eq_emod_of_nonneg (by omega)]; omega

theorem tmod_bd (a : Int) : -9 ≤ a.tmod 10 ∧ a.tmod 10 ≤ 9 := by
  have h := tmod_digit a
  rcases Int.lt_or_le a 0 with h1 | h1
  · have h2 := Int.tmod_eq_emod (a := a) (b := 10)
    have h3 := Int.emod_nonneg a (by decide : (10 : Int) ≠ 0)
    split at h2
    · have h5 : a.tmod 10 = a % 10 := by simpa using h2
      omega
    · rename_i h4
      have h5 : a.tmod 10 = a % 10 - 10 := by simpa using h2
      have h6 : a % 10 ≠ 0 := fun e => h4 (.inr (Int.dvd_of_emod_eq_zero e))
      omega
  · rw [Int.tmod_eq_emod_of_nonneg h1]; omega
theorem tmod_digit2 (a : Int) : (a.tmod 10 + 10) % 10 = a % 10 := by
  have h := tmod_digit a
  rw [Int.tmod_eq_emod_of_nonneg (a := a.tmod 10 + 10) (by have := tmod_bd a; omega)] at h
  exact h

theorem DT.play_succ (f : Bytes → Bytes) (T : DT) (l : List PCall) (k : Nat) (hk : k < l.length) : T.play f (l.take (k + 1)) = (T.play f (l.take k)).play1 f l[k] := by
  unfold DT.play
  rw [List.take_add_one, List.getElem?_eq_getElem hk, List.foldl_append]
  rfl

section
variable {tb : Nat} {w W : World} {T : DT}
/-- From here on, the tree's own blocks are known. -/
theorem Sat.split {S : Nat → Prop} {w0 : World} (h : Sat tb S w0 T w) : ∃ S1 : Nat → Prop, (∀ b, S1 b → b < w.heap.size) ∧ (∀ W, Below w.heap.size w W → Sat tb S1 W T W) ∧ (∀ W T' w', Below w.heap.size w W → Sat tb S1 W T' w' → Sat tb S w0 T' w') ∧ ∀ b, S1 b → S b ∨ w0.heap.size ≤ b := by
  obtain ⟨⟨nv, G, hr, hs⟩, ho⟩ := h.mut_
  refine ⟨fun b => b ∈ repBlocks tb nv G, hr.lt, fun W hb => Sat.start (hr.keep hb) h.wf h.ab, fun W T' w' hb k => ⟨Mut.seq ho hs hb k.mut_, k.wf, k.ab⟩, hs⟩
/-- What lay before the tree lies as it lay. -/
theorem Sat.old {w0 : World} (h : Sat tb (fun _ => False) w0 T W) : Below w0.heap.size w0 W := h.mut_.2.below fun _ _ h => h
theorem Sat.copied {w0 : World} (h : Sat tb (fun _ => False) w0 T W) : Calls Try.prog 35 #[.pointer (some ⟨tb, 0, none⟩)] W fun e w' => e = .returned (.pointer (some ⟨W.heap.size, 0, none⟩)) ∧ Sat W.heap.size (fun _ => False) w0 T w' := by
  refine h.copy.mono ?_
  rintro e w' ⟨he, ⟨nv, G, hr, hs⟩, hb⟩
  have hz := h.size
  exact ⟨he, ⟨⟨nv, G, hr, fun b hb1 => .inr (by have := hs b hb1; omega)⟩, h.mut_.2.trans (Only.of_below (S := fun _ => False) hb) fun i _ hi => hi⟩, h.wf, h.ab⟩
end

set_option maxRecDepth 100000 in
set_option maxHeartbeats 4000000 in
theorem played_ok {w : World} {R : Nat → Prop} {v : Value} {l : List CN} (h : CallsAt w R v l) (hR : ∀ b, R b → b < w.heap.size) (hlt : ∀ c ∈ l, Light c.call) (hn : l.length ≤ 200) {cap dep : Int} (hok : newOk cap dep = true) :
    Calls Try.prog 32 #[I cap, I dep, v] w fun e w' => ∃ tb, e = .returned (.pointer (some ⟨tb, 0, none⟩)) ∧ Sat tb (fun _ => False) w ((DT.new cap dep).play anew (l.map CN.call)) w' := by
  have HNew := Lib.hid (new_sat (w := w) hok)
  obtain ⟨A, vcap, hv, hcap, hmx, -⟩ := h.row.form
  have HG : Hid (∀ (wr : World), Below w.heap.size w wr → ∀ j (hj : j < l.length), ∃ b off, A = some ⟨b, off, none⟩ ∧ R b ∧ (∀ q, q < 10 → wr.cell? ⟨b, off + j * 10 + q, none⟩ = (l[j]).cells[q]?)) := by
    intro wr hb j hj
    obtain ⟨b, off, c', hv', hRb, hc⟩ := (h.keep fun b hb1 => hb.block b (hR b hb1)).get hj
    rw [hv] at hv'
    injection hv' with e1 _ _
    exact ⟨b, off, e1, hRb, hc⟩
  subst hv
  have HH := Lib.hid (And.intro h (And.intro hR hlt))
  clear h hR hlt hok
  obtain ⟨n, hnn⟩ : ∃ n, n = l.length := ⟨_, rfl⟩
  rw [← hnn] at hcap hn ⊢
  have HN := Lib.hid hnn
  clear hnn
  generalize DT.new cap dep = T0 at *
  go_enter Try.func32, Try.ntmps32
  go_wp2_with ((with_reducible refine HNew.out.mono ?_); rintro e w1 ⟨rfl, hs⟩; have K1 := Lib.hid hs; clear hs)
  go_loopw [7, 9, 10] (fun s7 s9 _ wr => ∃ (k tb : Nat), k ≤ n ∧ s9 = .int .i64 (k : Int) ∧ s7 = .pointer (some ⟨tb, 0, none⟩) ∧ Hid (Sat tb (fun _ => False) w (T0.play anew ((l.map CN.call).take k)) wr)) (fun _ s9 _ _ => n - (intOf s9).toNat)
  case atStart => exact ⟨0, w.heap.size, Nat.zero_le _, rfl, rfl, K1.out⟩
  case round =>
    obtain ⟨k, tb, hk, rfl, rfl, hs⟩ := hrel
    have hzr := hs.out.size
    have htl := hs.out.lt
    by_cases hlt : k < n
    · have hlt1 : (k : Int) < (n : Int) := by omega
      have hkl : k < l.length := by have := HN.out; omega
      have hold := hs.out.old
      obtain ⟨b, off, rfl, hRb, q⟩ := HG.out wr hold k hkl
      have hmem : l[k] ∈ l := List.getElem_mem hkl
      have hAt := HH.out.1.attrs _ hmem
      have hPV := HH.out.1.node _ hmem
      have hLi := HH.out.2.2 _ hmem
      have hstep : T0.play anew ((l.map CN.call).take (k + 1)) = (T0.play anew ((l.map CN.call).take k)).play1 anew (l[k]).call := by
        rw [DT.play_succ _ _ _ _ (by simpa using hkl)]; simp
      generalize hTn : T0.play anew ((l.map CN.call).take (k + 1)) = Tn at *
      have HTn := Lib.hid hTn
      clear hTn
      generalize T0.play anew ((l.map CN.call).take k) = Tk at *
      have hR : ∀ b, R b → b < w.heap.size := HH.out.2.1
      revert hAt hPV hLi hstep q
      generalize l[k] = C
      intro q hAt hPV hLi hstep
      obtain ⟨cw, ca, cb, cc, cs, cal, cav, cn⟩ := C
      obtain ⟨l1, l2, l3, l4, l5⟩ := hLi
      simp only [CN.call] at l1 l2 l3 l4 l5 hstep
      dsimp only at hAt hPV
      have HTx : Hid (∀ W, Below wr.heap.size wr W → Calls Try.prog 56 #[.pointer (some ⟨tb, 0, none⟩), .string cs] W fun e w' => e = .returned (.tuple #[I (Tk.text (anew cs)).1.1, I (Tk.text (anew cs)).1.2]) ∧ Sat tb (fun _ => False) w (Tk.text (anew cs)).2 w') := fun W hb => (hs.out.keep hb).text cs (by omega)
      have HIn : Hid (∀ W, Below wr.heap.size wr W → Calls Try.prog 36 #[.pointer (some ⟨tb, 0, none⟩), I ca, I cb, I cc] W fun e w' => e = .returned (I (Tk.insert ca cb cc).1) ∧ Sat tb (fun _ => False) w (Tk.insert ca cb cc).2 w') := fun W hb => (hs.out.keep hb).insert ca cb cc
      have HRe : Hid (∀ W, Below wr.heap.size wr W → Calls Try.prog 37 #[.pointer (some ⟨tb, 0, none⟩), I ca] W fun e w' => e = .returned (I (Tk.remove ca).1) ∧ Sat tb (fun _ => False) w (Tk.remove ca).2 w') := fun W hb => (hs.out.keep hb).remove ca
      have HDr : Hid (∀ W, Below wr.heap.size wr W → Calls Try.prog 40 #[.pointer (some ⟨tb, 0, none⟩), I ca] W fun e w' => e = .returned (I (Tk.drop ca).1) ∧ Sat tb (fun _ => False) w (Tk.drop ca).2 w') := fun W hb => (hs.out.keep hb).drop ca
      obtain ⟨S1, hS1, hS2, hS3, -⟩ := hs.out.split
      have HS1 := Lib.hid hS1
      have HS3 := Lib.hid hS3
      have HSA : Hid (∀ W, Below wr.heap.size wr W → Calls Try.prog 39 #[.pointer (some ⟨tb, 0, none⟩), I ca, cav] W fun e w' => e = .returned (I (Tk.setAttrs ca cal).1) ∧ Sat tb S1 W (Tk.setAttrs ca cal).2 w') := fun W hb => (hS2 W hb).setAttrs ca (m := cal.length) ((hAt.keep fun b hb1 => (hs.out.keep hb).old.block b (hR b hb1)).reads) l2
      have HST : Hid (∀ W W', Sat tb S1 W (Tk.setAttrs ca cal).2 W' → Calls Try.prog 38 #[.pointer (some ⟨tb, 0, none⟩), I ca, .string cs] W' fun e w' => e = .returned (I ((Tk.setAttrs ca cal).2.setText ca (anew cs)).1) ∧ Sat tb S1 W ((Tk.setAttrs ca cal).2.setText ca (anew cs)).2 w') := fun W W' h => h.setText ca cs (by omega)
      have HSG : Hid (∀ W W', Sat tb S1 W ((Tk.setAttrs ca cal).2.setText ca (anew cs)).2 W' → Calls Try.prog 44 #[.pointer (some ⟨tb, 0, none⟩), I ca, I cb] W' fun e w' => e = .returned (I (((Tk.setAttrs ca cal).2.setText ca (anew cs)).2.setTag ca cb).1) ∧ Sat tb S1 W (((Tk.setAttrs ca cal).2.setText ca (anew cs)).2.setTag ca cb).2 w') := fun W W' h => h.setTag ca cb
      clear hS1 hS2 hS3
      have HGr : Hid (∀ W, Below wr.heap.size wr W → Calls Try.prog 46 #[.pointer (some ⟨tb, 0, none⟩), I ca, I cb, cn.agg] W fun e w' => e = .returned (.tuple #[I (Tk.graft anew ca cb cn.node).1.1, I (Tk.graft anew ca cb cn.node).1.2]) ∧ Sat tb (fun _ => False) w (Tk.graft anew ca cb cn.node).2 w') := fun W hb => (hs.out.keep hb).graft ca cb (hPV.keep fun b hb1 => (hs.out.keep hb).old.block b (hR b hb1)) (fun b hb1 => ⟨hR b hb1, fun h => h⟩) l3 (by omega)
      have HCo : Hid (∀ W, Below wr.heap.size wr W → Calls Try.prog 35 #[.pointer (some ⟨tb, 0, none⟩)] W fun e w' => e = .returned (.pointer (some ⟨W.heap.size, 0, none⟩)) ∧ Sat W.heap.size (fun _ => False) w Tk w') := fun W hb => (hs.out.keep hb).copied
      have HEl : Hid (∀ W, Below wr.heap.size wr W → Calls Try.prog 59 #[.pointer (some ⟨tb, 0, none⟩), I ca, cav] W fun e w' => e = .returned (.tuple #[I (Tk.element ca cal).1.1, I (Tk.element ca cal).1.2]) ∧ Sat tb (fun _ => False) w (Tk.element ca cal).2 w') := fun W hb => (hs.out.keep hb).element ca (m := cal.length) ((hAt.keep fun b hb1 => (hs.out.keep hb).old.block b (hR b hb1)).reads) l2
      obtain ⟨aA, aC, hav, ha1, ha2, -⟩ := hAt.form
      obtain ⟨kt, kal, kx, d1, d2, d3, d4, d5, d6, kks, hcn⟩ := VN.kid_open hPV
      clear hPV
      subst hcn
      subst hav
      simp only [CN.cells, VN.cells, VN.agg, List.cons_append, List.nil_append] at q HGr
      have q0 := q 0 (by omega)
      have q1 := q 1 (by omega)
      have q2 := q 2 (by omega)
      have q3 := q 3 (by omega)
      have q4 := q 4 (by omega)
      have q5 := q 5 (by omega)
      have q6 := q 6 (by omega)
      have q7 := q 7 (by omega)
      have q8 := q 8 (by omega)
      have q9 := q 9 (by omega)
      simp at q0 q1 q2 q3 q4 q5 q6 q7 q8 q9
      have HSt := Lib.hid hstep
      have HS := Lib.hid hs.out
      clear q hstep hold hmem hAt l1 l2 l3 l4 l5 hR hRb
      generalize (VN.mk kt kal kx (Value.slice d1 d2 d3) (Value.slice d4 d5 d6) kks).node = nd at *
      generalize cal.length = am at *
      obtain ⟨t1, t2⟩ := tmod_bd cw
      go_upto_block 2 with fail
      first | rw [tmod_digit cw] | rw [tmod_digit2 cw]
      have hdg : 0 ≤ cw % 10 ∧ cw % 10 < 10 := by omega
      have HDG : Hid (cw % 10 = cw % 10) := rfl
      have kW : At (wr.alloc (.cells #[I cw, I ca, I cb, I cc, .string cs, .slice aA am aC, I kt, .slice d1 d2 d3, .string kx, .slice d4 d5 d6] 46)) wr.heap.size 46 #[I cw, I ca, I cb, I cc, .string cs, .slice aA am aC, I kt, .slice d1 d2 d3, .string kx, .slice d4 d5 d6] := At.fresh _ _ _ rfl
      have hbW : Below wr.heap.size wr (wr.alloc (.cells #[I cw, I ca, I cb, I cc, .string cs, .slice aA am aC, I kt, .slice d1 d2 d3, .string kx, .slice d4 d5 d6] 46)) := (Below.refl _ _).alloc (Nat.le_refl _) _
      generalize (wr.alloc (.cells #[I cw, I ca, I cb, I cc, .string cs, .slice aA am aC, I kt, .slice d1 d2 d3, .string kx, .slice d4 d5 d6] 46)) = W at kW hbW ⊢
      have kWc := kW.cell
      have kWl := kW.lt
      have HkW := Lib.hid kW
      have HBW := Lib.hid hbW
      clear kW hbW
      have hD : cw % 10 = 0 ∨ cw % 10 = 1 ∨ cw % 10 = 2 ∨ cw % 10 = 3 ∨ cw % 10 = 4 ∨ cw % 10 = 5 ∨ cw % 10 = 6 ∨ cw % 10 = 7 ∨ cw % 10 = 8 ∨ cw % 10 = 9 := by omega
      have HP1 : Hid (Tk.play1 anew ⟨cw, ca, cb, cc, cs, cal, nd⟩ = if cw % 10 = 2 then (Tk.text (anew cs)).2 else if cw % 10 = 3 ∨ cw % 10 = 4 then (Tk.insert ca cb cc).2 else if cw % 10 = 5 then (Tk.remove ca).2 else if cw % 10 = 6 then (Tk.drop ca).2 else if cw % 10 = 7 then (((Tk.setAttrs ca cal).2.setText ca (anew cs)).2.setTag ca cb).2 else if cw % 10 = 8 then (Tk.graft anew ca cb nd).2 else if cw % 10 = 9 then Tk else (Tk.element ca cal).2) := rfl
      clear HDG hdg
      generalize cw % 10 = dg at *
      have hfin : Hid (∀ (tb' : Nat) (W' : World), Sat tb' (fun _ => False) w (Tk.play1 anew ⟨cw, ca, cb, cc, cs, cal, nd⟩) W' → Sat tb' (fun _ => False) w (T0.play anew ((l.map CN.call).take (k + 1))) W') := fun tb' W' h => by rw [HTn.out, HSt.out]; exact h
      rcases hD with rfl | rfl | rfl | rfl | rfl | rfl | rfl | rfl | rfl | rfl
      all_goals
        simp only [Int.reduceEq, if_true, if_false, or_false, or_true, false_or, true_or] at HP1
        go_wp2_with (first
          | ((with_reducible refine (HTx.out _ HBW.out).mono ?_); rintro e w6 ⟨rfl, hs6⟩; have K6 := Lib.hid hs6; clear hs6)
          | ((with_reducible refine (HIn.out _ HBW.out).mono ?_); rintro e w6 ⟨rfl, hs6⟩; have K6 := Lib.hid hs6; clear hs6)
          | ((with_reducible refine (HRe.out _ HBW.out).mono ?_); rintro e w6 ⟨rfl, hs6⟩; have K6 := Lib.hid hs6; clear hs6)
          | ((with_reducible refine (HDr.out _ HBW.out).mono ?_); rintro e w6 ⟨rfl, hs6⟩; have K6 := Lib.hid hs6; clear hs6)
          | ((with_reducible refine (HGr.out _ HBW.out).mono ?_); rintro e w6 ⟨rfl, hs6⟩; have K6 := Lib.hid hs6; clear hs6)
          | ((with_reducible refine (HCo.out _ HBW.out).mono ?_); rintro e w6 ⟨rfl, hs6⟩; have K6 := Lib.hid hs6; clear hs6)
          | ((with_reducible refine (HEl.out _ HBW.out).mono ?_); rintro e w6 ⟨rfl, hs6⟩; have K6 := Lib.hid hs6; clear hs6)
          | ((with_reducible refine (HSA.out _ HBW.out).mono ?_); rintro e w7 ⟨rfl, hs7⟩; have K7 := Lib.hid hs7; have kW7 : At w7 wr.heap.size 46 #[I cw, I ca, I cb, I cc, .string cs, .slice aA am aC, I kt, .slice d1 d2 d3, .string kx, .slice d4 d5 d6] := (hs7.mut_.2.block _ HkW.out.lt (fun hx => by have := HS1.out _ hx; omega)).trans HkW.out; have kW7c := kW7.cell; clear hs7 kW7)
          | ((with_reducible refine (HST.out _ _ K7.out).mono ?_); rintro e w8 ⟨rfl, hs8⟩; have K8 := Lib.hid hs8; have kW8 : At w8 wr.heap.size 46 #[I cw, I ca, I cb, I cc, .string cs, .slice aA am aC, I kt, .slice d1 d2 d3, .string kx, .slice d4 d5 d6] := (hs8.mut_.2.block _ HkW.out.lt (fun hx => by have := HS1.out _ hx; omega)).trans HkW.out; have kW8c := kW8.cell; clear hs8 kW8)
          | ((with_reducible refine (HSG.out _ _ K8.out).mono ?_); rintro e w6 ⟨rfl, hs6⟩; have K6 := Lib.hid (HS3.out _ _ _ HBW.out hs6); clear hs6))
        exact ⟨⟨k + 1, _, by omega, by go_num, rfl, hfin.out _ _ (by rw [HP1.out]; exact K6.out)⟩, by simp [intOf]; omega⟩
    · have hkn : k = n := by omega
      subst hkn
      have e1 : (l.map CN.call).take k = l.map CN.call := List.take_of_length_le (by rw [List.length_map]; have := HN.out; omega)
      have h1 := hs.out
      rw [e1] at h1
      have H1 := Lib.hid h1
      clear h1 e1
      go_wp2_with fail
      go_ret
      exact ⟨tb, rfl, H1.out⟩

set_option maxHeartbeats 1000000 in
theorem played_no {w : World} {v : Value} {cap dep : Int} (hok : newOk cap dep = false) :
    Calls Try.prog 32 #[I cap, I dep, v] w (Ret (.pointer none) w) := by
  have HNew := Lib.hid (fun (W : World) => new_bad (w := W) hok)
  clear hok
  go_enter Try.func32, Try.ntmps32
  go_wp2_with ((with_reducible refine (HNew.out _).mono ?_); rintro e w1 ⟨rfl, hb⟩; have hz_w1 := hb.size; (try simp only [World.size_alloc, World.size_setCell, World.size_drew, size_drewN'] at hz_w1); have hb_w1 : Below w.heap.size w w1 := Below.trans (by exact (by repeat (first | exact Below.refl _ _ | assumption | (refine Below.setCell ?_ (by first | (simp; done) | (simp; omega) | omega) _) | (refine Below.alloc ?_ (by first | (simp; done) | (simp; omega) | omega) _) | (refine Below.drew ?_) | (refine Below.drewN' ?_ _)))) (hb.mono (by first | (simp; done) | (simp; omega) | omega)); obtain ⟨hc_w1, hf_w1⟩ := bcell hb_w1; clear hb)
  go_ret
  exact ⟨rfl, (by repeat (first | exact Below.refl _ _ | assumption | (refine Below.setCell ?_ (by first | (simp; done) | (simp; omega) | omega) _) | (refine Below.alloc ?_ (by first | (simp; done) | (simp; omega) | omega) _) | (refine Below.drew ?_) | (refine Below.drewN' ?_ _)))⟩
end Go.Proofs.Ytnnjlpkjpbbklaa

-- Open8: A handed row of chapter 8's calls, and a handed plain tree, as they lie in memory. Conditions: they read as data.
namespace Go.Proofs.Ytnnjlpkjpbbklaa
open Go.RowKit Go.ChangeShapes Go.WideShapes

/-- Inside the heap. -/
def InW (w : World) (b : Nat) : Prop := b < w.heap.size

theorem list_of {α : Type} {P : Nat → α → Prop} : ∀ (n : Nat), (∀ i, i < n → ∃ a, P i a) → ∃ l : List α, l.length = n ∧ ∀ i (h : i < l.length), P i l[i] := by
  intro n
  induction n with
  | zero => intro _; exact ⟨[], rfl, fun i h => by simp at h⟩
  | succ n ih =>
    intro h
    obtain ⟨l, hl, hp⟩ := ih fun i hi => h i (by omega)
    obtain ⟨a, ha⟩ := h n (by omega)
    refine ⟨l ++ [a], by simp [hl], fun i hi => ?_⟩
    by_cases hin : i < l.length
    · rw [List.getElem_append_left hin]; exact hp i hin
    · have e : i = l.length := by simp at hi; omega
      subst e
      rw [List.getElem_append_right (by omega)]
      simp only [Nat.sub_self, List.getElem_singleton]
      rw [hl]; exact ha

theorem flat_get {α : Type} (f : α → List Value) {size : Nat} (hf : ∀ a, (f a).length = size) : ∀ (l : List α) (i : Nat) (hi : i < l.length) (q : Nat), q < size → (l.flatMap f)[i * size + q]? = (f l[i])[q]? := by
  intro l
  induction l with
  | nil => intro i hi; simp at hi
  | cons k ks ih =>
    intro i hi q hq
    have hk := hf k
    rw [List.flatMap_cons]
    cases i with
    | zero => rw [List.getElem?_append_left (by omega)]; simp
    | succ i =>
      have h1 : (i + 1) * size = i * size + size := Nat.succ_mul i size
      rw [List.getElem?_append_right (by omega)]
      rw [show (i + 1) * size + q - (f k).length = i * size + q by omega, ih i (by simpa using hi) q hq]
      simp
theorem flat_length {α : Type} (f : α → List Value) {size : Nat} (hf : ∀ a, (f a).length = size) (l : List α) : (l.flatMap f).length = l.length * size := by
  induction l with
  | nil => simp
  | cons k ks ih => rw [List.flatMap_cons, List.length_append, ih, hf, List.length_cons, Nat.succ_mul, Nat.add_comm]

section
variable {H : Type} {enc : TypeId × Value → H} {w : World} {spare : Nat → Bool} {held : Bool}

theorem row_open {α : Type} (f : α → List Value) {size : Nat} (hf : ∀ a, (f a).length = size) (hsz : 0 < size) (Q : α → Prop) {t e : TypeId} {fuel : Nat} {cs : List Value} {x : DataW H × List MemPlace}
    (ht : Try.prog.underlying t = some (.slice e)) (hc : Try.prog.cellsOf e = size)
    (each : ∀ n cs' y, n < fuel → DataW.trod enc Try.prog w 0 spare held n e cs' = some y → ∃ a, cs' = f a ∧ Q a)
    (h : DataW.trod enc Try.prog w 0 spare held fuel t cs = some x) : ∃ (v : Value) (l : List α), cs = [v] ∧ RowQ w (InW w) size v l.length (l.flatMap f) ∧ ∀ a ∈ l, Q a := by
  rcases DataW.trod_slice ht h with ⟨rfl, _⟩ | ⟨A, len, cap, elems, rest, n, rfl, rfl, _, _, hl, hm, hlen, hel, _, _⟩
  · exact ⟨_, [], rfl, RowQ.nil _ _ _, fun a ha => by cases ha⟩
  have hall : ∀ i, i < len → ∃ a, w.cells? 0 (A.add (i * size)) size = some (f a) ∧ Q a := by
    intro i hi
    have h1 := hel i hi
    rw [hc, List.getElem?_eq_getElem (by omega : i < elems.length)] at h1
    obtain ⟨cs', h2, h3⟩ := Option.bind_eq_some_iff.1 h1
    obtain ⟨a, rfl, hq⟩ := each n cs' _ (Nat.lt_succ_self n) h3
    exact ⟨a, h2, hq⟩
  obtain ⟨l, hll, hp⟩ := list_of len hall
  subst hll
  refine ⟨_, l, rfl, ⟨flat_length f hf l, ?_⟩, fun a ha => ?_⟩
  · by_cases h0 : l.length = 0
    · rw [h0]; exact .inr (.inl ⟨A, cap, rfl, rfl, hm⟩)
    right; right
    obtain ⟨b, off, spot⟩ := A
    obtain ⟨_, _, hcell0⟩ := World.cells?_some (hp 0 (by omega)).1
    have hg0 := hcell0 0 hsz
    rw [List.getElem?_eq_getElem (by rw [hf]; exact hsz)] at hg0
    have hspot : spot = none := by simpa [Addr.add] using World.cell?_spot hg0
    subst hspot
    have hbw : b < w.heap.size := by simpa [Addr.add] using World.block_lt_of_cell? w _ hg0
    refine ⟨b, off, cap, rfl, hl, hm, hbw, fun j u hu => ?_⟩
    have hj : j < l.length * size := by rw [← flat_length f hf l]; exact (List.getElem?_eq_some_iff.1 hu).1
    have hi : j / size < l.length := Nat.div_lt_of_lt_mul (by rw [Nat.mul_comm]; exact hj)
    have hq : j % size < size := Nat.mod_lt _ hsz
    have hdm : j / size * size + j % size = j := by rw [Nat.mul_comm]; exact Nat.div_add_mod j size
    have hg := flat_get f hf l (j / size) hi (j % size) hq
    rw [hdm, hu] at hg
    obtain ⟨_, _, hcell⟩ := World.cells?_some (hp (j / size) hi).1
    have hcj := hcell (j % size) hq
    rw [← hg, add_plain, add_plain, Nat.add_assoc, hdm] at hcj
    exact hcj
  · obtain ⟨i, hi, rfl⟩ := List.getElem_of_mem ha
    exact (hp i hi).2

theorem cut_at {n k o : Nat} {T : TypeId} {cs cs' : List Value} {r : Option (DataW H × List MemPlace)} (hk : Try.prog.cellsOf T = k) (h : DataW.trod enc Try.prog w 0 spare held n T ((cs.drop o).take (Try.prog.cellsOf T)) = r) (hc : (cs.drop o).take k = cs') :
    DataW.trod enc Try.prog w 0 spare held n T cs' = r := by rw [hk, hc] at h; exact h

set_option maxRecDepth 100000 in
theorem attrs_open {fuel : Nat} {cs : List Value} {x : DataW H × List MemPlace} (h : DataW.trod enc Try.prog w 0 spare held fuel 38 cs = some x) :
    ∃ (v : Value) (al : List (Bytes × Bytes)), cs = [v] ∧ RowQ w (InW w) 2 v al.length (attrCells al) := by
  obtain ⟨v, al, h1, h2, _⟩ := row_open (fun a : Bytes × Bytes => [Value.string a.1, Value.string a.2]) (size := 2) (fun _ => rfl) (by omega) (fun _ => True) Try.underlying38 (by kernel_rfl) (fun n cs' y _ hy => by
    obtain ⟨y0, y1, m, _, hl, h0, h1⟩ := trod_struct2 Try.underlying55 hy
    rw [show Try.prog.cellsOf 55 = 2 by kernel_rfl] at hl
    match cs', hl with
    | [c0, c1], _ =>
      have g0 := cut_at (k := 1) (cs' := [c0]) (by kernel_rfl) h0 rfl
      have g1 := cut_at (k := 1) (cs' := [c1]) (by kernel_rfl) h1 rfl
      obtain ⟨s0, e0, _⟩ := DataW.trod_string Try.underlying9 g0
      obtain ⟨s1, e1, _⟩ := DataW.trod_string Try.underlying9 g1
      simp only [List.cons.injEq, and_true] at e0 e1
      subst e0 e1
      exact ⟨(s0, s1), rfl, trivial⟩) h
  exact ⟨v, al, h1, h2⟩

set_option maxRecDepth 100000 in
theorem node_open : ∀ (fuel : Nat) (cs : List Value) (x : DataW H × List MemPlace), DataW.trod enc Try.prog w 0 spare held fuel 41 cs = some x → ∃ V : VN, cs = V.cells ∧ PV w (InW w) V := by
  intro fuel
  induction fuel using Nat.strongRecOn with
  | _ fuel ih =>
    intro cs x h
    obtain ⟨xs, n, rfl, _, hl, hlen, hfs⟩ := DataW.trod_struct Try.underlying41 h
    rw [show Try.prog.cellsOf 41 = 4 by kernel_rfl] at hl
    match cs, hl, xs, hlen with
    | [c0, c1, c2, c3], _, [y0, y1, y2, y3], _ =>
      have g0 := cut_at (k := 1) (cs' := [c0]) (by kernel_rfl) (hfs 0 _ rfl) rfl
      have g1 := cut_at (k := 1) (cs' := [c1]) (by kernel_rfl) (hfs 1 _ rfl) rfl
      have g2 := cut_at (k := 1) (cs' := [c2]) (by kernel_rfl) (hfs 2 _ rfl) rfl
      have g3 := cut_at (k := 1) (cs' := [c3]) (by kernel_rfl) (hfs 3 _ rfl) rfl
      obtain ⟨t, e0, _⟩ := DataW.trod_int Try.underlying3 g0
      obtain ⟨av, al, e1, ha⟩ := attrs_open g1
      obtain ⟨s, e2, _⟩ := DataW.trod_string Try.underlying9 g2
      obtain ⟨kv, ks, e3, hk, hks⟩ := row_open VN.cells VN.cells_length (by omega) (PV w (InW w)) Try.underlying39 (by kernel_rfl) (fun m cs' y hm hy => ih m (by omega) cs' y hy) g3
      simp only [List.cons.injEq, and_true] at e0 e1 e2 e3
      subst e0 e1 e2 e3
      exact ⟨.mk t al s _ _ ks, rfl, .mk ha hk hks⟩

set_option maxRecDepth 100000 in
theorem calls_open {fuel : Nat} {cs : List Value} {x : DataW H × List MemPlace} (h : DataW.trod enc Try.prog w 0 spare held fuel 34 cs = some x) :
    ∃ (v : Value) (l : List CN), cs = [v] ∧ CallsAt w (InW w) v l := by
  obtain ⟨v, l, h1, h2, h3⟩ := row_open CN.cells CN.cells_length (by omega) (fun c : CN => RowQ w (InW w) 2 c.av c.attrs.length (attrCells c.attrs) ∧ PV w (InW w) c.n) Try.underlying34 (by kernel_rfl) (fun n cs' y _ hy => by
    obtain ⟨xs, m, _, _, hl, hlen, hfs⟩ := DataW.trod_struct Try.underlying46 hy
    rw [show Try.prog.cellsOf 46 = 10 by kernel_rfl] at hl
    match cs', hl, xs, hlen with
    | [c0, c1, c2, c3, c4, c5, c6, c7, c8, c9], _, [y0, y1, y2, y3, y4, y5, y6], _ =>
      have g0 := cut_at (k := 1) (cs' := [c0]) (by kernel_rfl) (hfs 0 _ rfl) rfl
      have g1 := cut_at (k := 1) (cs' := [c1]) (by kernel_rfl) (hfs 1 _ rfl) rfl
      have g2 := cut_at (k := 1) (cs' := [c2]) (by kernel_rfl) (hfs 2 _ rfl) rfl
      have g3 := cut_at (k := 1) (cs' := [c3]) (by kernel_rfl) (hfs 3 _ rfl) rfl
      have g4 := cut_at (k := 1) (cs' := [c4]) (by kernel_rfl) (hfs 4 _ rfl) rfl
      have g5 := cut_at (k := 1) (cs' := [c5]) (by kernel_rfl) (hfs 5 _ rfl) rfl
      have g6 := cut_at (k := 4) (cs' := [c6, c7, c8, c9]) (by kernel_rfl) (hfs 6 _ rfl) rfl
      obtain ⟨i0, e0, _⟩ := DataW.trod_int Try.underlying3 g0
      obtain ⟨i1, e1, _⟩ := DataW.trod_int Try.underlying3 g1
      obtain ⟨i2, e2, _⟩ := DataW.trod_int Try.underlying3 g2
      obtain ⟨i3, e3, _⟩ := DataW.trod_int Try.underlying3 g3
      obtain ⟨s, e4, _⟩ := DataW.trod_string Try.underlying9 g4
      obtain ⟨av, al, e5, ha⟩ := attrs_open g5
      obtain ⟨V, e6, hV⟩ := node_open _ _ _ g6
      simp only [List.cons.injEq, and_true] at e0 e1 e2 e3 e4 e5
      subst e0 e1 e2 e3 e4 e5
      refine ⟨⟨i0, i1, i2, i3, s, al, _, V⟩, ?_, ha, hV⟩
      show _ = [_, _, _, _, _, _] ++ V.cells
      rw [← e6]; rfl) h
  exact ⟨v, l, h1, ⟨h2, fun c hc => (h3 c hc).1, fun c hc => (h3 c hc).2⟩⟩

set_option maxRecDepth 100000 in
theorem arg_calls {r : Reach} {b0 : Nat} {v : Value} {d : DataW H} {ps : List MemPlace} (hval : Value.okWide Try.prog w r b0 34 v) (h : DataW.Trod enc Try.prog w 0 spare held 34 v d ps) : ∃ l, CallsAt w (InW w) v l := by
  obtain ⟨fuel, hf⟩ := h
  obtain ⟨v', l, h1, h2⟩ := calls_open hf
  obtain ⟨o, m, c, rfl⟩ := okWide_slice Try.underlying34 hval
  simp [Value.cells] at h1
  subst h1
  exact ⟨l, h2⟩
set_option maxRecDepth 100000 in
theorem arg_node {r : Reach} {b0 : Nat} {v : Value} {d : DataW H} {ps : List MemPlace} (hval : Value.okWide Try.prog w r b0 41 v) (h : DataW.Trod enc Try.prog w 0 spare held 41 v d ps) : ∃ V : VN, v = V.agg ∧ PV w (InW w) V := by
  obtain ⟨fuel, hf⟩ := h
  obtain ⟨V, h1, h2⟩ := node_open _ _ _ hf
  obtain ⟨cs, rfl, _⟩ := okWide_struct Try.underlying41 hval
  refine ⟨V, ?_, h2⟩
  cases V
  simp only [Value.cells, VN.cells] at h1
  simp only [VN.agg]
  congr 1
  exact Array.toList_inj.1 (by rw [h1])
end
end Go.Proofs.Ytnnjlpkjpbbklaa

-- ToldV: A plain tree that was told, and stays in a variable. Conditions: it lies in memory.
namespace Go.Proofs.Ytnnjlpkjpbbklaa
open Go.RowKit

/-- A plain tree in a variable of its own. -/
def BoxV (w : World) (B : Nat) (V : VN) : Prop := At w B 41 V.cells.toArray

/-- A plain tree that was told lies there, and in a variable. -/
structure ToldV (base : Nat) (w : World) (B : Nat) (V : VN) (n : PNode) : Prop where
  box : BoxV w B V
  pv : PV w (fun b => base ≤ b ∧ b < w.heap.size) V
  node : V.node = n
  ge : base ≤ B

theorem ToldV.only {base B : Nat} {w w' : World} {V : VN} {n : PNode} {S : Nat → Prop} (h : ToldV base w B V n) (ho : Only S w w') (hS : ∀ b, S b → b < base) : ToldV base w' B V n := by
  have hz := ho.size
  refine ⟨(ho.block B h.box.lt (fun hx => by have := hS _ hx; have := h.ge; omega)).trans h.box, (h.pv.keep fun b hb => ho.block b hb.2 (fun hx => by have := hS _ hx; omega)).mono fun b hb => ⟨hb.1, by omega⟩, h.node, h.ge⟩

theorem ToldV.make {base B B2 : Nat} {w2 w' : World} {V : VN} {n : PNode} {X : Prop} (hV : V.node = n ∧ PV w2 (Since B2 w2) V ∧ X) (hB : base ≤ B2) (hb : Below w2.heap.size w2 w') (box : BoxV w' B V) (ge : base ≤ B) : ToldV base w' B V n := by
  have hz := hb.size
  exact ⟨box, (hV.2.1.keepB hb fun b hb => hb.2).mono fun b hb => ⟨Nat.le_trans hB hb.1, Nat.lt_of_lt_of_le hb.2 hz⟩, hV.1, ge⟩

/-- SameNode of a tree just told and one that was told. -/
theorem ToldV.same {base B : Nat} {w : World} {V U : VN} {n : PNode} {R : Nat → Prop} (h : ToldV base w B V n) (hU : PV w R U) (hR : ∀ b, R b → b < w.heap.size) (e : U.node = n) (hs : n.small) (ht : n.thin) :
    Calls Try.prog 41 #[U.agg, V.agg] w (Ret (.bool true) w) :=
  sameNode_eq U V R _ w hU h.pv (by rw [e, h.node]) (by rw [e]; exact hs) (by rw [e]; exact ht) hR (fun b hb => hb.2)
end Go.Proofs.Ytnnjlpkjpbbklaa
