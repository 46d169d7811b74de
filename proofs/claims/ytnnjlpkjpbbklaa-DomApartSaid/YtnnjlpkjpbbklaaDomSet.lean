/-
  SetAttrs, SetText, SetTag of package dom. Conditions: the tree lies in memory.
-/
import Derived.Test.YtnnjlpkjpbbklaaDomNew
set_option linter.unusedVariables false
set_option linter.unusedSimpArgs false
namespace Go.Proofs.Ytnnjlpkjpbbklaa
open Go.RowKit

section
variable {w : World} {tb : Nat} {T : DT} {nv : Value} {G : List (Option NG)}

theorem Rep.node_nodup (h : Rep w tb T nv G) {i : Nat} {g : NG} (hg : G[i]? = some (some g)) : g.blocks.Nodup := by
  have hn := h.nodup
  obtain ⟨l1, l2, e, _, _⟩ := split_get hg
  rw [repBlocks_eq, e, List.flatMap_append, List.flatMap_cons] at hn
  exact (List.nodup_append.1 (List.nodup_append.1 (List.nodup_append.1 hn).2.1).2.1).1

theorem NG.b_ne {g : NG} (h : g.blocks.Nodup) : g.av.ownBlock ≠ some g.b ∧ g.kv.ownBlock ≠ some g.b ∧ ∀ b, g.av.ownBlock = some b → g.kv.ownBlock ≠ some b := by
  simp only [NG.blocks, List.nodup_cons, List.mem_append, Option.mem_toList, not_or, List.nodup_append] at h
  obtain ⟨⟨h1, h2⟩, _, _, h5⟩ := h
  exact ⟨fun e => h1 (by simp [e]), fun e => h2 (by simp [e]), fun b e e' => h5 b (by simp [e]) b (by simp [e']) rfl⟩

/-- One node is changed where it lies: nothing but its own blocks has turned. -/
theorem Mut.node {S : Nat → Prop} {w' : World} (h : Rep w tb T nv G) (hS : ∀ b ∈ repBlocks tb nv G, S b) {i : Nat} {n n' : Nd} {g g' : NG} (hn : T.at_ i = some n) (hg : G[i]? = some (some g)) (hb : g'.b = g.b)
    (hr : NodeRep w' g' n') (hO : Only (fun b => b ∈ g.blocks) w w') (hnd : g'.blocks.Nodup) (hnew : ∀ b ∈ g'.blocks, b ∈ g.blocks ∨ w.heap.size ≤ b) : Mut tb (T.put i (some n')) S w w' := by
  refine ⟨⟨nv, _, h.setNode hn hg hb hr (fun b hb1 hb2 => hO.block b (h.lt b hb1) hb2) hnd hnew, Rep.set_blocks (fun b hb1 => .inl (hS b hb1)) fun b hb1 => ?_⟩, hO.mono fun b hb1 => hS b (mem_repBlocks_node hg hb1)⟩
  rcases hnew b hb1 with h1 | h1
  · exact .inl (hS b (mem_repBlocks_node hg h1))
  · exact .inr h1

/-- One cell of a node is written; its slices stay. -/
theorem Mut.cell {S : Nat → Prop} {w1 w' : World} (h : Rep w tb T nv G) (hS : ∀ b ∈ repBlocks tb nv G, S b) {i k : Nat} {u : Value} {n n' : Nd} {g : NG} (hn : T.at_ i = some n) (hg : G[i]? = some (some g)) (hr : NodeRep w g n) (hb : Below w.heap.size w w1)
    (hw : w' = w1.setCell ⟨g.b, k, none⟩ u) (hc : (#[I n.tag, g.av, .string n.text, g.kv, I (DT.upI n.up)] : Array Value).setIfInBounds k u = #[I n'.tag, g.av, .string n'.text, g.kv, I (DT.upI n'.up)]) (ha : n'.attrs = n.attrs) (hk : n'.kids = n.kids) : Mut tb (T.put i (some n')) S w w' := by
  have hnd := h.node_nodup hg
  have hne := NG.b_ne hnd
  have hz := hb.size
  have hlt := hr.lt
  subst hw
  refine Mut.node h hS hn hg rfl ⟨?_, ?_, ?_⟩ ?_ hnd fun b hb1 => .inl hb1
  · exact (hr.1.keep hb).set' hc
  · rw [ha]
    exact (hr.2.1.keep hb).same fun b hb1 => Below.heap_setCell _ _ _ _ (fun e => hne.1 (by rw [hb1]; exact congrArg some e))
  · rw [hk]
    exact (hr.2.2.keep hb).same fun b hb1 => Below.heap_setCell _ _ _ _ (fun e => hne.2.1 (by rw [hb1]; exact congrArg some e))
  · refine ⟨hb.os, hb.tape, hb.output, by rw [World.size_setCell]; exact hz, fun b hb1 hn' => ?_⟩
    rw [Below.heap_setCell _ _ _ _ (fun e => hn' (by rw [show b = g.b from e]; simp [NG.blocks]))]
    exact hb.block b hb1

set_option maxHeartbeats 1000000 in
theorem setText_any (h : Rep w tb T nv G) {S : Nat → Prop} (hS : ∀ b ∈ repBlocks tb nv G, S b) (hl : T.nodes.length ≤ 2000) (id : Int) (s : Bytes) (hs : s.size ≤ 1000000) :
    Calls Try.prog 38 #[.pointer (some ⟨tb, 0, none⟩), I id, .string s] w fun e w' => e = .returned (I (T.setText id (anew s)).1) ∧ Mut tb (T.setText id (anew s)).2 S w w' := by
  have HE := Lib.hid (fun (W : World) => anew_any (w := W) s hs)
  have hsz : (anew s).size ≤ 4000000 := by
    have h1 := runesBytes_size_le (runesOf s)
    have h2 := runesOf_le s
    unfold anew
    omega
  generalize anew s = t at *
  have HM0 := Lib.hid (fun (W : World) (hW : Below w.heap.size w W) => Mut.of_below h hS hW)
  unfold DT.setText
  cases hn : T.get id with
  | none =>
    have HG := Lib.hid (fun (W : World) (hW : Below w.heap.size w W) => get_none (h.keep hW) hl hn)
    clear h hS hn
    go_enter Try.func38, Try.ntmps38
    go_wp2_with (first | ((with_reducible refine (HE.out _).mono ?_); rintro e w1 ⟨rfl, hb⟩; have hz_w1 := hb.size; (try simp only [World.size_alloc, World.size_setCell, World.size_drew, size_drewN'] at hz_w1); have hb_w1 : Below w.heap.size w w1 := Below.trans (by exact (by repeat (first | exact Below.refl _ _ | assumption | (refine Below.setCell ?_ (by first | (simp; done) | (simp; omega) | omega) _) | (refine Below.alloc ?_ (by first | (simp; done) | (simp; omega) | omega) _) | (refine Below.drew ?_) | (refine Below.drewN' ?_ _)))) (hb.mono (by first | (simp; done) | (simp; omega) | omega)); obtain ⟨hc_w1, hf_w1⟩ := bcell hb_w1; clear hb) | ((with_reducible refine (HG.out _ (by repeat (first | exact Below.refl _ _ | assumption | (refine Below.setCell ?_ (by first | (simp; done) | (simp; omega) | omega) _) | (refine Below.alloc ?_ (by first | (simp; done) | (simp; omega) | omega) _) | (refine Below.drew ?_) | (refine Below.drewN' ?_ _)))).mono ?_); rintro e w' ⟨rfl, rfl⟩))
    go_ret
    exact ⟨rfl, HM0.out _ (by repeat (first | exact Below.refl _ _ | assumption | (refine Below.setCell ?_ (by first | (simp; done) | (simp; omega) | omega) _) | (refine Below.alloc ?_ (by first | (simp; done) | (simp; omega) | omega) _) | (refine Below.drew ?_) | (refine Below.drewN' ?_ _)))⟩
  | some n =>
    dsimp only
    obtain ⟨h0, h1, h2⟩ := DT.get_some hn
    obtain ⟨g, hp, hr, hg⟩ := h.ptr_some hn
    have HG : Hid (∀ (W : World), Below w.heap.size w W → Calls Try.prog 112 #[.pointer (some ⟨tb, 0, none⟩), .int .i64 id] W fun e w' => e = .returned (.pointer (some ⟨g.b, 0, none⟩)) ∧ W = w') := by
      intro W hW
      have := get_any (h.keep hW) hl id
      rw [hp] at this
      exact this
    have hgb := hr.1.lt
    have hc := hr.1.cell
    have hf := hr.1.frozen
    have HH := Lib.hid (And.intro h (And.intro hS (And.intro h1 (And.intro hr hg))))
    clear h hS hn h1 hr hg hp
    by_cases ht : n.tag = 0
    · have hd : (n.tag == 0) = true := by simp [ht]
      rw [if_neg (by simp [ht])]
      rw [ht] at hc
      by_cases hlen : 8192 < t.size
      · rw [if_pos hlen]
        go_enter Try.func38, Try.ntmps38
        go_wp2_with (first | ((with_reducible refine (HE.out _).mono ?_); rintro e w1 ⟨rfl, hb⟩; have hz_w1 := hb.size; (try simp only [World.size_alloc, World.size_setCell, World.size_drew, size_drewN'] at hz_w1); have hb_w1 : Below w.heap.size w w1 := Below.trans (by exact (by repeat (first | exact Below.refl _ _ | assumption | (refine Below.setCell ?_ (by first | (simp; done) | (simp; omega) | omega) _) | (refine Below.alloc ?_ (by first | (simp; done) | (simp; omega) | omega) _) | (refine Below.drew ?_) | (refine Below.drewN' ?_ _)))) (hb.mono (by first | (simp; done) | (simp; omega) | omega)); obtain ⟨hc_w1, hf_w1⟩ := bcell hb_w1; clear hb) | ((with_reducible refine (HG.out _ (by repeat (first | exact Below.refl _ _ | assumption | (refine Below.setCell ?_ (by first | (simp; done) | (simp; omega) | omega) _) | (refine Below.alloc ?_ (by first | (simp; done) | (simp; omega) | omega) _) | (refine Below.drew ?_) | (refine Below.drewN' ?_ _)))).mono ?_); rintro e w' ⟨rfl, rfl⟩))
        go_ret
        exact ⟨rfl, HM0.out _ (by repeat (first | exact Below.refl _ _ | assumption | (refine Below.setCell ?_ (by first | (simp; done) | (simp; omega) | omega) _) | (refine Below.alloc ?_ (by first | (simp; done) | (simp; omega) | omega) _) | (refine Below.drew ?_) | (refine Below.drewN' ?_ _)))⟩
      · rw [if_neg hlen]
        have HT := Lib.hid ht
        clear ht
        go_enter Try.func38, Try.ntmps38
        go_wp2_with (first | ((with_reducible refine (HE.out _).mono ?_); rintro e w1 ⟨rfl, hb⟩; have hz_w1 := hb.size; (try simp only [World.size_alloc, World.size_setCell, World.size_drew, size_drewN'] at hz_w1); have hb_w1 : Below w.heap.size w w1 := Below.trans (by exact (by repeat (first | exact Below.refl _ _ | assumption | (refine Below.setCell ?_ (by first | (simp; done) | (simp; omega) | omega) _) | (refine Below.alloc ?_ (by first | (simp; done) | (simp; omega) | omega) _) | (refine Below.drew ?_) | (refine Below.drewN' ?_ _)))) (hb.mono (by first | (simp; done) | (simp; omega) | omega)); obtain ⟨hc_w1, hf_w1⟩ := bcell hb_w1; clear hb) | ((with_reducible refine (HG.out _ (by repeat (first | exact Below.refl _ _ | assumption | (refine Below.setCell ?_ (by first | (simp; done) | (simp; omega) | omega) _) | (refine Below.alloc ?_ (by first | (simp; done) | (simp; omega) | omega) _) | (refine Below.drew ?_) | (refine Below.drewN' ?_ _)))).mono ?_); rintro e w' ⟨rfl, rfl⟩))
        go_ret
        exact ⟨rfl, Mut.cell HH.out.1 HH.out.2.1 HH.out.2.2.1 HH.out.2.2.2.2 HH.out.2.2.2.1 hb_w1 rfl rfl rfl rfl⟩
    · have hd : (n.tag == 0) = false := by simp [ht]
      have hd2 : (n.tag != 0) = true := by simp [ht]
      rw [if_pos ht]
      go_enter Try.func38, Try.ntmps38
      go_wp2_with (first | ((with_reducible refine (HE.out _).mono ?_); rintro e w1 ⟨rfl, hb⟩; have hz_w1 := hb.size; (try simp only [World.size_alloc, World.size_setCell, World.size_drew, size_drewN'] at hz_w1); have hb_w1 : Below w.heap.size w w1 := Below.trans (by exact (by repeat (first | exact Below.refl _ _ | assumption | (refine Below.setCell ?_ (by first | (simp; done) | (simp; omega) | omega) _) | (refine Below.alloc ?_ (by first | (simp; done) | (simp; omega) | omega) _) | (refine Below.drew ?_) | (refine Below.drewN' ?_ _)))) (hb.mono (by first | (simp; done) | (simp; omega) | omega)); obtain ⟨hc_w1, hf_w1⟩ := bcell hb_w1; clear hb) | ((with_reducible refine (HG.out _ (by repeat (first | exact Below.refl _ _ | assumption | (refine Below.setCell ?_ (by first | (simp; done) | (simp; omega) | omega) _) | (refine Below.alloc ?_ (by first | (simp; done) | (simp; omega) | omega) _) | (refine Below.drew ?_) | (refine Below.drewN' ?_ _)))).mono ?_); rintro e w' ⟨rfl, rfl⟩))
      go_ret
      exact ⟨rfl, HM0.out _ (by repeat (first | exact Below.refl _ _ | assumption | (refine Below.setCell ?_ (by first | (simp; done) | (simp; omega) | omega) _) | (refine Below.alloc ?_ (by first | (simp; done) | (simp; omega) | omega) _) | (refine Below.drew ?_) | (refine Below.drewN' ?_ _)))⟩

set_option maxHeartbeats 1000000 in
theorem setTag_any (h : Rep w tb T nv G) {S : Nat → Prop} (hS : ∀ b ∈ repBlocks tb nv G, S b) (hl : T.nodes.length ≤ 2000) (id tag : Int) :
    Calls Try.prog 44 #[.pointer (some ⟨tb, 0, none⟩), I id, I tag] w fun e w' => e = .returned (I (T.setTag id tag).1) ∧ Mut tb (T.setTag id tag).2 S w w' := by
  have HE := Lib.hid (fun (W : World) => element_any (w := W) tag)
  have HM0 := Lib.hid (fun (W : World) (hW : Below w.heap.size w W) => Mut.of_below h hS hW)
  unfold DT.setTag
  cases hn : T.get id with
  | none =>
    have HG := Lib.hid (get_none h hl hn)
    clear h hS hn
    go_enter Try.func44, Try.ntmps44
    go_wp2_with (first | ((with_reducible refine (HE.out _).mono ?_); rintro e w1 ⟨rfl, hb⟩; have hz_w1 := hb.size; (try simp only [World.size_alloc, World.size_setCell, World.size_drew, size_drewN'] at hz_w1); have hb_w1 : Below w.heap.size w w1 := Below.trans (by exact (by repeat (first | exact Below.refl _ _ | assumption | (refine Below.setCell ?_ (by first | (simp; done) | (simp; omega) | omega) _) | (refine Below.alloc ?_ (by first | (simp; done) | (simp; omega) | omega) _) | (refine Below.drew ?_) | (refine Below.drewN' ?_ _)))) (hb.mono (by first | (simp; done) | (simp; omega) | omega)); obtain ⟨hc_w1, hf_w1⟩ := bcell hb_w1; clear hb) | ((with_reducible refine (HG.out).mono ?_); rintro e w' ⟨rfl, rfl⟩))
    go_ret
    exact ⟨rfl, HM0.out _ (by repeat (first | exact Below.refl _ _ | assumption | (refine Below.setCell ?_ (by first | (simp; done) | (simp; omega) | omega) _) | (refine Below.alloc ?_ (by first | (simp; done) | (simp; omega) | omega) _) | (refine Below.drew ?_) | (refine Below.drewN' ?_ _)))⟩
  | some n =>
    dsimp only
    obtain ⟨h0, h1, h2⟩ := DT.get_some hn
    obtain ⟨g, hp, hr, hg⟩ := h.ptr_some hn
    have HG : Hid (Calls Try.prog 112 #[.pointer (some ⟨tb, 0, none⟩), .int .i64 id] w fun e w' => e = .returned (.pointer (some ⟨g.b, 0, none⟩)) ∧ w = w') := by
      have := get_any h hl id
      rw [hp] at this
      exact this
    have hgb := hr.1.lt
    have hc := hr.1.cell
    have hf := hr.1.frozen
    have HH := Lib.hid (And.intro h (And.intro hS (And.intro h1 (And.intro hr hg))))
    clear h hS hn h1 hr hg hp
    by_cases ht : n.tag = 0
    · have hd : (n.tag == 0) = true := by simp [ht]
      rw [if_pos ht]
      rw [ht] at hc
      go_enter Try.func44, Try.ntmps44
      go_wp2_with (first | ((with_reducible refine (HE.out _).mono ?_); rintro e w1 ⟨rfl, hb⟩; have hz_w1 := hb.size; (try simp only [World.size_alloc, World.size_setCell, World.size_drew, size_drewN'] at hz_w1); have hb_w1 : Below w.heap.size w w1 := Below.trans (by exact (by repeat (first | exact Below.refl _ _ | assumption | (refine Below.setCell ?_ (by first | (simp; done) | (simp; omega) | omega) _) | (refine Below.alloc ?_ (by first | (simp; done) | (simp; omega) | omega) _) | (refine Below.drew ?_) | (refine Below.drewN' ?_ _)))) (hb.mono (by first | (simp; done) | (simp; omega) | omega)); obtain ⟨hc_w1, hf_w1⟩ := bcell hb_w1; clear hb) | ((with_reducible refine (HG.out).mono ?_); rintro e w' ⟨rfl, rfl⟩))
      go_ret
      exact ⟨rfl, HM0.out _ (by repeat (first | exact Below.refl _ _ | assumption | (refine Below.setCell ?_ (by first | (simp; done) | (simp; omega) | omega) _) | (refine Below.alloc ?_ (by first | (simp; done) | (simp; omega) | omega) _) | (refine Below.drew ?_) | (refine Below.drewN' ?_ _)))⟩
    · have hd : (n.tag == 0) = false := by simp [ht]
      rw [if_neg ht]
      cases hok : elementOk tag with
      | false =>
        rw [hok] at HE
        rw [if_pos (.inl rfl)]
        go_enter Try.func44, Try.ntmps44
        go_wp2_with (first | ((with_reducible refine (HE.out _).mono ?_); rintro e w1 ⟨rfl, hb⟩; have hz_w1 := hb.size; (try simp only [World.size_alloc, World.size_setCell, World.size_drew, size_drewN'] at hz_w1); have hb_w1 : Below w.heap.size w w1 := Below.trans (by exact (by repeat (first | exact Below.refl _ _ | assumption | (refine Below.setCell ?_ (by first | (simp; done) | (simp; omega) | omega) _) | (refine Below.alloc ?_ (by first | (simp; done) | (simp; omega) | omega) _) | (refine Below.drew ?_) | (refine Below.drewN' ?_ _)))) (hb.mono (by first | (simp; done) | (simp; omega) | omega)); obtain ⟨hc_w1, hf_w1⟩ := bcell hb_w1; clear hb) | ((with_reducible refine (HG.out).mono ?_); rintro e w' ⟨rfl, rfl⟩))
        go_ret
        exact ⟨rfl, HM0.out _ (by repeat (first | exact Below.refl _ _ | assumption | (refine Below.setCell ?_ (by first | (simp; done) | (simp; omega) | omega) _) | (refine Below.alloc ?_ (by first | (simp; done) | (simp; omega) | omega) _) | (refine Below.drew ?_) | (refine Below.drewN' ?_ _)))⟩
      | true =>
        rw [hok] at HE
        by_cases hid : id = 0
        · have hd3 : (id == 0) = true := by simp [hid]
          rw [if_pos (.inr hid)]
          clear hid
          go_enter Try.func44, Try.ntmps44
          go_wp2_with (first | ((with_reducible refine (HE.out _).mono ?_); rintro e w1 ⟨rfl, hb⟩; have hz_w1 := hb.size; (try simp only [World.size_alloc, World.size_setCell, World.size_drew, size_drewN'] at hz_w1); have hb_w1 : Below w.heap.size w w1 := Below.trans (by exact (by repeat (first | exact Below.refl _ _ | assumption | (refine Below.setCell ?_ (by first | (simp; done) | (simp; omega) | omega) _) | (refine Below.alloc ?_ (by first | (simp; done) | (simp; omega) | omega) _) | (refine Below.drew ?_) | (refine Below.drewN' ?_ _)))) (hb.mono (by first | (simp; done) | (simp; omega) | omega)); obtain ⟨hc_w1, hf_w1⟩ := bcell hb_w1; clear hb) | ((with_reducible refine (HG.out).mono ?_); rintro e w' ⟨rfl, rfl⟩))
          go_ret
          exact ⟨rfl, HM0.out _ (by repeat (first | exact Below.refl _ _ | assumption | (refine Below.setCell ?_ (by first | (simp; done) | (simp; omega) | omega) _) | (refine Below.alloc ?_ (by first | (simp; done) | (simp; omega) | omega) _) | (refine Below.drew ?_) | (refine Below.drewN' ?_ _)))⟩
        · have hd3 : (id == 0) = false := by simp [hid]
          rw [if_neg (by simp [hid])]
          clear hid
          go_enter Try.func44, Try.ntmps44
          go_wp2_with (first | ((with_reducible refine (HE.out _).mono ?_); rintro e w1 ⟨rfl, hb⟩; have hz_w1 := hb.size; (try simp only [World.size_alloc, World.size_setCell, World.size_drew, size_drewN'] at hz_w1); have hb_w1 : Below w.heap.size w w1 := Below.trans (by exact (by repeat (first | exact Below.refl _ _ | assumption | (refine Below.setCell ?_ (by first | (simp; done) | (simp; omega) | omega) _) | (refine Below.alloc ?_ (by first | (simp; done) | (simp; omega) | omega) _) | (refine Below.drew ?_) | (refine Below.drewN' ?_ _)))) (hb.mono (by first | (simp; done) | (simp; omega) | omega)); obtain ⟨hc_w1, hf_w1⟩ := bcell hb_w1; clear hb) | ((with_reducible refine (HG.out).mono ?_); rintro e w' ⟨rfl, rfl⟩))
          go_ret
          exact ⟨rfl, Mut.cell HH.out.1 HH.out.2.1 HH.out.2.2.1 HH.out.2.2.2.2 HH.out.2.2.2.1 hb_w1 rfl rfl rfl rfl⟩
end
end Go.Proofs.Ytnnjlpkjpbbklaa
