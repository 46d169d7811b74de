/-
  Remove of package dom. Conditions: the tree lies in memory and is sound.
-/
import Derived.Test.YtnnjlpkjpbbklaaDomIns
set_option linter.unusedVariables false
set_option linter.unusedSimpArgs false
namespace Go.Proofs.Ytnnjlpkjpbbklaa
open Go.RowKit

theorem erase_take (l : List Nat) (x : Nat) (h : x ∈ l) : l.take (l.idxOf x) ++ l.drop (l.idxOf x + 1) = l.erase x := by
  induction l with
  | nil => cases h
  | cons a l ih =>
    by_cases e : a = x
    · subst e; simp
    · rcases List.mem_cons.1 h with h | h
      · exact absurd h.symm e
      · rw [List.erase_cons_tail (by simpa using e), List.idxOf_cons, show (a == x) = false by simpa using e]
        simp only [cond_false, List.take_succ_cons, List.drop_succ_cons, List.cons_append]
        rw [ih h]

section
variable {w : World} {tb : Nat} {T : DT} {nv : Value} {G : List (Option NG)}

set_option maxHeartbeats 2000000 in
theorem removeNode_any (h : Rep w tb T nv G) {S : Nat → Prop} (hS : ∀ b ∈ repBlocks tb nv G, S b) (hW : T.WF) (id : Int) :
    Calls Try.prog 37 #[.pointer (some ⟨tb, 0, none⟩), I id] w fun e w' => e = .returned (I (T.remove id).1) ∧ Mut tb (T.remove id).2 S w w' := by
  have hl := hW.nodes_le
  have HM0 := Lib.hid (fun (W : World) (hW : Below w.heap.size w W) => Mut.of_below h hS hW)
  rcases DT.remove_cases hW id with ⟨hn, e⟩ | ⟨n, hn, hu, e⟩ | ⟨n, up, p, hn, hu, hp, hm, e⟩
  · rw [e]
    have HG := Lib.hid (get_none h hl hn)
    clear h hS hW hn e
    go_enter Try.func37, Try.ntmps37
    go_wp2_with ((with_reducible refine HG.out.mono ?_); rintro e w' ⟨rfl, rfl⟩)
    go_ret
    exact ⟨rfl, HM0.out _ (by repeat (first | exact Below.refl _ _ | assumption | (refine Below.setCell ?_ (by first | (simp; done) | (simp; omega) | omega) _) | (refine Below.alloc ?_ (by first | (simp; done) | (simp; omega) | omega) _) | (refine Below.drew ?_) | (refine Below.drewN' ?_ _)))⟩
  · rw [e]
    obtain ⟨g, hr, _, H⟩ := get_some h hl hn
    have HG := Lib.hid H
    have hc := hr.1.cell
    rw [hu] at hc
    clear h hS hW hn e hr H hu
    go_enter Try.func37, Try.ntmps37
    go_wp2_with ((with_reducible refine HG.out.mono ?_); rintro e w' ⟨rfl, rfl⟩)
    go_ret
    exact ⟨rfl, HM0.out _ (by repeat (first | exact Below.refl _ _ | assumption | (refine Below.setCell ?_ (by first | (simp; done) | (simp; omega) | omega) _) | (refine Below.alloc ?_ (by first | (simp; done) | (simp; omega) | omega) _) | (refine Below.drew ?_) | (refine Below.drewN' ?_ _)))⟩
  · rw [e]
    obtain ⟨h0, hn1, h02⟩ := DT.get_some hn
    obtain ⟨i, rfl⟩ : ∃ i : Nat, id = i := ⟨id.toNat, by omega⟩
    simp only [Int.toNat_natCast] at hn1 hm e ⊢
    obtain ⟨gn, hrn, hgn, H⟩ := get_some h hl hn
    have HG := Lib.hid H
    have hcn := hrn.1.cell
    rw [hu] at hcn
    have hcn4 : w.cell? ⟨gn.b, 4, none⟩ = some (I (up : Int)) := hcn 4
    have hul := DT.at_lt hp
    obtain ⟨nb, ncap, hnv, hncap, hnmx, hnode⟩ := h.nodes_open hW
    obtain ⟨gp, hcellp, hrp, hgp⟩ := hnode up p hp
    have htree := h.tree.cell
    have htl := h.tree.lt
    have hil := DT.at_lt hn1
    have hkl := kids_len hW hp
    obtain ⟨A, cap, hv, hcap, hmx, hA⟩ := hrp.2.2.form
    have hne : gn.b ≠ gp.b := by
      intro e
      exact h.node_apart hgn hgp (fun e' => (hW.up_ne hn1 hu) (by simpa using e'.symm)) gn.b (by simp [NG.blocks]) (by rw [e]; simp [NG.blocks])
    have hgn' : G[i]? = some (some gn) := by simpa using hgn
    have hpi : up ≠ i := hW.up_ne hn1 hu
    have hkvg : gp.kv.ownBlock ≠ some gp.b := (NG.b_ne (h.node_nodup hgp)).2.1
    have hkvk : gp.kv.ownBlock ≠ some gn.b := fun e => h.node_apart hgp hgn' hpi gn.b (by simp [NG.blocks, e]) (by simp [NG.blocks])
    have hkvl : ∀ b, gp.kv.ownBlock = some b → b < w.heap.size := fun b hb => h.lt b (mem_repBlocks_node hgp (by simp [NG.blocks, hb]))
    have hix : p.kids.idxOf i < p.kids.length := List.idxOf_lt_length_iff.2 hm
    have hrow := hrp.2.2
    rw [kidCells_map] at hrow
    have hidx : idxI (p.kids.map fun (k : Nat) => (k : Int)) (i : Int) = (p.kids.idxOf i : Int) := by rw [idxI_kids]; simp [hm]
    have hcp := hrp.1.cell
    have hgpl := hrp.1.lt
    have hgnl := hrn.1.lt
    have HI := Lib.hid (fun (W : World) (hb : Below w.heap.size w W) => index_any (hrow.keep hb) (by omega) (i : Int))
    have HX := Lib.hid (And.intro h (And.intro hS (And.intro hW (And.intro hp (And.intro hn1 (And.intro hgp (And.intro hgn' (And.intro hrp (And.intro hrn hv)))))))))
    have herase := erase_take p.kids i hm
    have hle : (p.kids.erase i).length = p.kids.length - 1 := List.length_erase_of_mem hm
    have HD : Hid (∀ (W : World), Below w.heap.size w W → Calls Try.prog 118 #[.slice A p.kids.length cap, .int .i64 (p.kids.idxOf i : Nat), .int .i64 ((p.kids.idxOf i : Nat) + 1)] W fun e w2 =>
        ∃ (A' : Option Addr) (cap' : Nat), e = .returned (.slice A' (p.kids.length - 1) cap') ∧ Row w2 3 1 (.slice A' (p.kids.length - 1) cap') (p.kids.erase i).length (kidCells (p.kids.erase i)) ∧ Only (fun b => gp.kv.ownBlock = some b) W w2 ∧ (∀ b, (Value.slice A' (p.kids.length - 1) cap').ownBlock = some b → gp.kv.ownBlock = some b ∨ W.heap.size ≤ b) ∧
          At w2 gp.b 139 #[I p.tag, gp.av, .string p.text, .slice A p.kids.length cap, I (DT.upI p.up)] ∧ At w2 gn.b 139 #[I n.tag, gn.av, .string n.text, gn.kv, I (up : Int)]) := by
      intro W hb
      have h1 := delete_any (hrow.keep hb) hix
      rw [hv, show ((p.kids.idxOf i + 1 : Nat) : Int) = ((p.kids.idxOf i : Nat) : Int) + 1 from rfl] at h1
      refine h1.mono ?_
      rintro e w2 ⟨v', rfl, hr, hO, hn⟩
      obtain ⟨A', cap', rfl, _⟩ := hr.form
      have hz := hb.size
      refine ⟨A', cap', rfl, ?_, by rw [hv]; exact hO, fun b hb1 => .inl (by rw [hv, ← hn]; exact hb1), ?_, ?_⟩
      · rw [hle, ← herase]
        have e1 : kidCells (p.kids.take (p.kids.idxOf i) ++ p.kids.drop (p.kids.idxOf i + 1)) = ((p.kids.map fun (k : Nat) => (k : Int)).take (p.kids.idxOf i) ++ (p.kids.map fun (k : Nat) => (k : Int)).drop (p.kids.idxOf i + 1)).map (Value.int .i64) := by
          simp only [kidCells, List.map_append, List.map_take, List.map_drop, List.map_map]; rfl
        rw [e1]; exact hr
      · have h2 := hrp.1.keep hb
        rw [hv] at h2
        exact (hO.block gp.b (by omega) (by rw [← hv]; exact hkvg)).trans h2
      · have h2 := hrn.1.keep hb
        rw [hu] at h2
        exact (hO.block gn.b (by omega) (by rw [← hv]; exact hkvk)).trans h2
    rw [hidx] at HI
    rw [hv] at hcp HI
    subst hnv
    have HK := Lib.hid (And.intro hle (And.intro hpi hu))
    generalize p.kids.length = m at *
    generalize p.kids.idxOf i = ix at *
    generalize T.nodes.length = N at *
    have hNl : ((N : Nat) : Int) ≤ 2000 := by omega
    have hml : ((m : Nat) : Int) ≤ 2000 := by omega
    clear h hS hW hn hn1 hu hp hm e hrn hgn hgn' H hcn hnode hrp hgp hrow hidx hv herase hle hkvg hkvk hkvl hA h0 h02 hpi
    have hne2 : gp.b ≠ gn.b := fun e => hne e.symm
    go_enter Try.func37, Try.ntmps37
    go_upto_region 8 with ((with_reducible refine HG.out.mono ?_); rintro e w' ⟨rfl, rfl⟩)
    go_quiet (fail)
    generalize hw1 : w.drewN nq = w1
    have hb1 : Below w.heap.size w w1 := by rw [← hw1]; exact Below.drewN' (Below.refl _ _) _
    obtain ⟨hc1, hf1⟩ := bcell hb1
    have hz1 := hb1.size
    have HB1 := Lib.hid hb1
    clear hw1 hb1
    go_wp2_with (first | ((with_reducible refine (HI.out _ HB1.out).mono ?_); rintro e w' ⟨rfl, rfl⟩) | ((with_reducible refine (HD.out _ HB1.out).mono ?_); rintro e w2 ⟨A', cap', rfl, hrow, hO, hnew, ha1, ha2⟩; have hac1 := ha1.cell; have haf1 := ha1.frozen; have hac2 := ha2.cell; have haf2 := ha2.frozen; have HR := Lib.hid (And.intro hrow (And.intro hO hnew)); clear hrow hO hnew ha1 ha2))
    go_ret
    refine ⟨rfl, ?_⟩
    exact Mut.linked (u := none) HX.out.1 HX.out.2.1 HX.out.2.2.2.1 HX.out.2.2.2.2.2.1 HX.out.2.2.2.2.2.2.2.1 HX.out.2.2.2.2.1 HX.out.2.2.2.2.2.2.1 HX.out.2.2.2.2.2.2.2.2.1 HK.out.2.1 HB1.out HR.out.1 HR.out.2.1 HR.out.2.2 rfl
end
end Go.Proofs.Ytnnjlpkjpbbklaa
