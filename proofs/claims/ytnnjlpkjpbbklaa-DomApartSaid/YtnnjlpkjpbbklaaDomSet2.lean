/-
  SetAttrs of package dom. Conditions: the tree lies in memory.
-/
import Derived.Test.YtnnjlpkjpbbklaaDomSet
set_option linter.unusedVariables false
set_option linter.unusedSimpArgs false
namespace Go.Proofs.Ytnnjlpkjpbbklaa
open Go.RowKit

section
variable {w : World} {tb : Nat} {T : DT} {nv : Value} {G : List (Option NG)}

/-- The attributes of a node are a new row. -/
theorem Mut.attrs {S : Nat → Prop} {w1 w' : World} (h : Rep w tb T nv G) (hS : ∀ b ∈ repBlocks tb nv G, S b) {i : Nat} {v : Value} {n : Nd} {al : List (Bytes × Bytes)} {g : NG} (hn : T.at_ i = some n) (hg : G[i]? = some (some g)) (hr : NodeRep w g n) (hb : Below w.heap.size w w1)
    (ho : w1.ownsRow w.heap.size 55 2 v al.length (attrCells al)) (hw : w' = w1.setCell ⟨g.b, 1, none⟩ v) : Mut tb (T.put i (some { n with attrs := al })) S w w' := by
  have hnd := h.node_nodup hg
  have hne := NG.b_ne hnd
  have hz := hb.size
  have hlt := hr.lt
  have hge := own_ge ho
  have hgb := hr.1.lt
  subst hw
  refine Mut.node (g' := ⟨g.b, v, g.kv⟩) h hS hn hg rfl ⟨?_, ?_, ?_⟩ ?_ ?_ fun b hb1 => ?_
  · exact (hr.1.keep hb).set' rfl
  · exact (own_mono ho).same fun b hb1 => Below.heap_setCell _ _ _ _ (fun e => by have := hge b hb1; have e' : b = g.b := e; omega)
  · exact (hr.2.2.keep hb).same fun b hb1 => Below.heap_setCell _ _ _ _ (fun e => hne.2.1 (by rw [hb1]; exact congrArg some e))
  · refine ⟨hb.os, hb.tape, hb.output, by rw [World.size_setCell]; exact hz, fun b hb1 hn' => ?_⟩
    rw [Below.heap_setCell _ _ _ _ (fun e => hn' (by rw [show b = g.b from e]; simp [NG.blocks]))]
    exact hb.block b hb1
  · simp only [NG.blocks, List.nodup_cons, List.mem_append, Option.mem_toList, not_or, List.nodup_append]
    refine ⟨⟨fun e => by have := hge _ e; omega, hne.2.1⟩, ?_, ?_, fun a ha b hb1 e => ?_⟩
    · cases v.ownBlock <;> simp
    · cases g.kv.ownBlock <;> simp
    · have := hge a (by simpa using ha)
      have := (hr.2.2.lt b (by simpa using hb1)).2
      omega
  · simp only [NG.blocks, List.mem_cons, List.mem_append, Option.mem_toList] at hb1
    rcases hb1 with rfl | h1 | h1
    · left; simp [NG.blocks]
    · exact .inr (hge b h1).1
    · left; simp [NG.blocks, h1]

set_option maxHeartbeats 1000000 in
theorem setAttrs_any (h : Rep w tb T nv G) {S : Nat → Prop} (hS : ∀ b ∈ repBlocks tb nv G, S b) (hl : T.nodes.length ≤ 2000) (id : Int) {av : Value} {m : Nat} {al : List (Bytes × Bytes)} (ha : RowR w 2 av m (attrCells al)) (hm : m ≤ 1000000) :
    Calls Try.prog 39 #[.pointer (some ⟨tb, 0, none⟩), I id, av] w fun e w' => e = .returned (I (T.setAttrs id al).1) ∧ Mut tb (T.setAttrs id al).2 S w w' := by
  have hml : m = al.length := by have := ha.1; rw [attrCells_length] at this; omega
  have HE := Lib.hid (cloneAttrR_any ha hm (attrCells_one al))
  have HM0 := Lib.hid (fun (W : World) (hW : Below w.heap.size w W) => Mut.of_below h hS hW)
  obtain ⟨A, cap, rfl⟩ := ha.form
  unfold DT.setAttrs
  cases hn : T.get id with
  | none =>
    have HG := Lib.hid (get_none h hl hn)
    clear h hS hn ha
    go_enter Try.func39, Try.ntmps39
    go_wp2_with ((with_reducible refine (HG.out).mono ?_); rintro e w' ⟨rfl, rfl⟩)
    go_ret
    exact ⟨rfl, HM0.out _ (by repeat (first | exact Below.refl _ _ | assumption | (refine Below.setCell ?_ (by first | (simp; done) | (simp; omega) | omega) _) | (refine Below.alloc ?_ (by first | (simp; done) | (simp; omega) | omega) _) | (refine Below.drew ?_) | (refine Below.drewN' ?_ _)))⟩
  | some n =>
    dsimp only
    obtain ⟨h0, h1, h2⟩ := DT.get_some hn
    obtain ⟨g, hp, hr, hg⟩ := h.ptr_some hn
    have HG : Hid (Calls Try.prog 112 #[.pointer (some ⟨tb, 0, none⟩), .int .i64 id] w fun e w' => e = .returned (.pointer (some ⟨g.b, 0, none⟩)) ∧ w = w') := by
      have := get_any h hl id
      rw [hp] at this
      exact this
    have hgb := hr.1.lt
    have hc := hr.1.cell
    have hf := hr.1.frozen
    have HH := Lib.hid (And.intro h (And.intro hS (And.intro h1 (And.intro hr hg))))
    have HL := Lib.hid hml
    clear h hS hn h1 hr hg hp ha hml
    by_cases ht : n.tag = 0
    · have hd : (n.tag == 0) = true := by simp [ht]
      rw [if_pos ht]
      rw [ht] at hc
      go_enter Try.func39, Try.ntmps39
      go_wp2_with ((with_reducible refine (HG.out).mono ?_); rintro e w' ⟨rfl, rfl⟩)
      go_ret
      exact ⟨rfl, HM0.out _ (by repeat (first | exact Below.refl _ _ | assumption | (refine Below.setCell ?_ (by first | (simp; done) | (simp; omega) | omega) _) | (refine Below.alloc ?_ (by first | (simp; done) | (simp; omega) | omega) _) | (refine Below.drew ?_) | (refine Below.drewN' ?_ _)))⟩
    · have hd : (n.tag == 0) = false := by simp [ht]
      rw [if_neg ht]
      go_enter Try.func39, Try.ntmps39
      go_wp2_with (first | ((with_reducible refine (HG.out).mono ?_); rintro e w' ⟨rfl, rfl⟩) | ((with_reducible refine (HE.out).mono ?_); rintro e w1 ⟨v_w1, rfl, hown, hb⟩; obtain ⟨A_w1, c_w1, rfl⟩ := own_form hown; have HO_w1 := Lib.hid hown; clear hown; have HBb_w1 := Lib.hid hb; have hz_w1 := hb.size; (try simp only [World.size_alloc, World.size_setCell, World.size_drew, size_drewN'] at hz_w1); have hb_w1 : Below w.heap.size w w1 := Below.trans (by exact (by repeat (first | exact Below.refl _ _ | assumption | (refine Below.setCell ?_ (by first | (simp; done) | (simp; omega) | omega) _) | (refine Below.alloc ?_ (by first | (simp; done) | (simp; omega) | omega) _) | (refine Below.drew ?_) | (refine Below.drewN' ?_ _)))) (hb.mono (by first | (simp; done) | (simp; omega) | omega)); obtain ⟨hc_w1, hf_w1⟩ := bcell hb_w1; clear hb))
      go_ret
      exact ⟨rfl, Mut.attrs HH.out.1 HH.out.2.1 HH.out.2.2.1 HH.out.2.2.2.2 HH.out.2.2.2.1 hb_w1 (by rw [← HL.out]; exact HO_w1.out) rfl⟩
end
end Go.Proofs.Ytnnjlpkjpbbklaa
