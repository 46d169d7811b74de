/-
  Package order, walked: all but All, Point, At and Clamp. Conditions: a tree that is told of.
-/
import Derived.Test.YtnnjlpkjpbbklaaLawA
import Derived.Test.YtnnjlpkjpbbklaaPureDom
import Derived.Laws.RangeString
-- On: A tree of package dom that is only read, nil or not: what is told of it. Conditions: none.
set_option linter.unusedVariables false
set_option linter.unusedSimpArgs false
namespace Go.Proofs.Ytnnjlpkjpbbklaa
open Go.RowKit

/-- A row of ints that a call hands back, with an element. -/
def KSome (l : List Nat) (W : World) (e : Ending) (w' : World) : Prop := ∃ b cap, e = .returned (.slice (some ⟨b, 0, none⟩) l.length cap) ∧ l.length ≤ cap ∧ cap ≤ maxLen ∧ W.heap.size ≤ b ∧ b < w'.heap.size ∧ (∀ j (h : j < l.length), w'.cell? ⟨b, j, none⟩ = some (I (l[j] : Int))) ∧ Below W.heap.size W w'
/-- One without an element. -/
def KNone (W : World) (e : Ending) (w' : World) : Prop := ∃ A cap, e = .returned (.slice A 0 cap) ∧ cap ≤ maxLen ∧ Below W.heap.size W w'

theorem retRow_some {l : List Nat} {W w' : World} {e : Ending} (h : RetRow 3 1 l.length (kidCells l) W e w') (hne : l ≠ []) : KSome l W e w' := by
  obtain ⟨v, he, hown, hb⟩ := h
  have hp : 0 < l.length := List.length_pos_iff.2 hne
  rcases hown.2 with ⟨_, h0⟩ | ⟨g, cap, cur, rfl, hg, hgx, hc, hm, hs, ht⟩
  · omega
  · have hA : At w' g 3 cur := hgx
    refine ⟨g, cap, he, hc, hm, hg, hA.lt, fun j hj => ?_, hb⟩
    rw [hA.cell j, ← Array.getElem?_toList]
    have h1 := kidCells_get l j hj
    rw [← ht, List.getElem?_take] at h1
    split at h1
    · exact h1
    · cases h1
theorem retRow_none {W w' : World} {e : Ending} (h : RetRow 3 1 0 [] W e w') : KNone W e w' := by
  obtain ⟨v, he, hown, hb⟩ := h
  rcases hown.2 with ⟨rfl, _⟩ | ⟨g, cap, cur, rfl, hg, hgx, hc, hm, hs, ht⟩
  · exact ⟨none, 0, he, Nat.zero_le _, hb⟩
  · exact ⟨_, cap, he, hm, hb⟩

namespace DT
/-- There is no tree. -/
def nobody : DT := ⟨0, 0, []⟩
theorem nobody_at (i : Nat) : nobody.at_ i = none := rfl
theorem nobody_get (id : Int) : nobody.get id = none := by unfold get; split <;> rfl
theorem nobody_has (id : Int) : nobody.has id = false := by unfold has; rw [nobody_get]; rfl
end DT

theorem nilR_has {w : World} (id : Int) : Calls Try.prog 42 #[.pointer none, I id] w fun e w' => e = .returned (.bool false) ∧ w = w' := by
  go_enter Try.func42, Try.ntmps42
  go_wp2_with ((with_reducible refine (nil_get _).mono ?_); rintro e w' ⟨rfl, rfl⟩)
  go_ret
  exact ⟨rfl, rfl⟩
theorem nilR_tag {w : World} (id : Int) : Calls Try.prog 61 #[.pointer none, I id] w fun e w' => e = .returned (I (-1)) ∧ w = w' := by
  go_enter Try.func61, Try.ntmps61
  go_wp2_with ((with_reducible refine (nil_get _).mono ?_); rintro e w' ⟨rfl, rfl⟩)
  go_ret
  exact ⟨rfl, rfl⟩
theorem nilR_parent {w : World} (id : Int) : Calls Try.prog 49 #[.pointer none, I id] w fun e w' => e = .returned (I (-1)) ∧ w = w' := by
  go_enter Try.func49, Try.ntmps49
  go_wp2_with ((with_reducible refine (nil_get _).mono ?_); rintro e w' ⟨rfl, rfl⟩)
  go_ret
  exact ⟨rfl, rfl⟩
theorem nilR_depth {w : World} (id : Int) : Calls Try.prog 51 #[.pointer none, I id] w fun e w' => e = .returned (I (-1)) ∧ w = w' := by
  go_enter Try.func51, Try.ntmps51
  go_wp2_with ((with_reducible refine (nil_get _).mono ?_); rintro e w' ⟨rfl, rfl⟩)
  go_ret
  exact ⟨rfl, rfl⟩
theorem nilR_live {w : World} (id : Int) : Calls Try.prog 43 #[.pointer none, I id] w fun e w' => e = .returned (.bool false) ∧ w = w' := by
  go_enter Try.func43, Try.ntmps43
  go_wp2_with ((with_reducible refine (nil_get _).mono ?_); rintro e w' ⟨rfl, rfl⟩)
  go_ret
  exact ⟨rfl, rfl⟩
theorem nilR_told {w : World} (id : Int) : Calls Try.prog 63 #[.pointer none, I id] w fun e w' => e = .returned (.string ⟨#[]⟩) ∧ w = w' := by
  go_enter Try.func63, Try.ntmps63
  go_wp2_with ((with_reducible refine (nil_get _).mono ?_); rintro e w' ⟨rfl, rfl⟩)
  go_ret
  exact ⟨rfl, rfl⟩
theorem nilR_index {w : World} (id : Int) : Calls Try.prog 50 #[.pointer none, I id] w fun e w' => e = .returned (I (-1)) ∧ w = w' := by
  go_enter Try.func50, Try.ntmps50
  go_wp2_with (first | ((with_reducible refine (nilR_parent _).mono ?_); rintro e w' ⟨rfl, rfl⟩) | ((with_reducible refine (nil_get _).mono ?_); rintro e w' ⟨rfl, rfl⟩))
  go_ret
  exact ⟨rfl, rfl⟩

/-- What is told of a tree in each world that only new blocks part from w. -/
structure On (q : Option Addr) (T : DT) (w : World) : Prop where
  sound : T.WF ∨ T = DT.nobody
  has : ∀ W, Below w.heap.size w W → ∀ id, Calls Try.prog 42 #[.pointer q, I id] W fun e w' => e = .returned (.bool (T.has id)) ∧ W = w'
  parent : ∀ W, Below w.heap.size w W → ∀ id, Calls Try.prog 49 #[.pointer q, I id] W fun e w' => e = .returned (I (T.upOf id)) ∧ W = w'
  tag : ∀ W, Below w.heap.size w W → ∀ id, Calls Try.prog 61 #[.pointer q, I id] W fun e w' => e = .returned (I (T.tagOf id)) ∧ W = w'
  index : ∀ W, Below w.heap.size w W → ∀ id, Calls Try.prog 50 #[.pointer q, I id] W fun e w' => e = .returned (I (T.indexOf id)) ∧ W = w'
  depth : ∀ W, Below w.heap.size w W → ∀ id, Calls Try.prog 51 #[.pointer q, I id] W fun e w' => e = .returned (I (T.depth id)) ∧ W = w'
  live : ∀ W, Below w.heap.size w W → ∀ id, Calls Try.prog 43 #[.pointer q, I id] W fun e w' => e = .returned (.bool (T.live id)) ∧ W = w'
  told : ∀ W, Below w.heap.size w W → ∀ id, Calls Try.prog 63 #[.pointer q, I id] W fun e w' => e = .returned (.string (T.textOf id)) ∧ W = w'
  kids : ∀ W, Below w.heap.size w W → ∀ id, Calls Try.prog 64 #[.pointer q, I id] W (RetRow 3 1 (T.kidsOf id).length (kidCells (T.kidsOf id)) W)

section
variable {q : Option Addr} {T : DT} {w w' : World}
theorem On.keep (h : On q T w) (hb : Below w.heap.size w w') : On q T w' := by
  have k := fun {W} (hW : Below w'.heap.size w' W) => hb.trans (hW.mono hb.size)
  exact ⟨h.sound, fun W hW => h.has W (k hW), fun W hW => h.parent W (k hW), fun W hW => h.tag W (k hW), fun W hW => h.index W (k hW), fun W hW => h.depth W (k hW), fun W hW => h.live W (k hW), fun W hW => h.told W (k hW), fun W hW => h.kids W (k hW)⟩
theorem Sat.told {tb : Nat} {S0 : Nat → Prop} {w0 : World} (h : Sat tb S0 w0 T w) (id : Int) : Calls Try.prog 63 #[.pointer (some ⟨tb, 0, none⟩), I id] w fun e w' => e = .returned (.string (T.textOf id)) ∧ w = w' := h.read fun _ _ hr => told_any hr h.wf.nodes_le id
theorem Sat.on {tb : Nat} {S0 : Nat → Prop} {w0 : World} (h : Sat tb S0 w0 T w) : On (some ⟨tb, 0, none⟩) T w :=
  ⟨.inl h.wf, fun _ hb id => (h.keep hb).has id, fun _ hb id => (h.keep hb).parent id, fun _ hb id => (h.keep hb).tag id, fun _ hb id => (h.keep hb).index id, fun _ hb id => (h.keep hb).depth id, fun _ hb id => (h.keep hb).live id, fun _ hb id => (h.keep hb).told id, fun _ hb id => (h.keep hb).kids id⟩
theorem On.nil (w : World) : On none DT.nobody w := by
  refine ⟨.inr rfl, fun W _ id => ?_, fun W _ id => ?_, fun W _ id => ?_, fun W _ id => ?_, fun W _ id => ?_, fun W _ id => ?_, fun W _ id => ?_, fun W _ id => ?_⟩
  · rw [DT.nobody_has]; exact nilR_has id
  · rw [show DT.nobody.upOf id = -1 by unfold DT.upOf; rw [DT.nobody_get]]; exact nilR_parent id
  · rw [show DT.nobody.tagOf id = -1 by unfold DT.tagOf; rw [DT.nobody_get]]; exact nilR_tag id
  · rw [show DT.nobody.indexOf id = -1 by unfold DT.indexOf; rw [DT.nobody_get]]; exact nilR_index id
  · rw [show DT.nobody.depth id = -1 by unfold DT.depth; rw [DT.nobody_has]; rfl]; exact nilR_depth id
  · rw [show DT.nobody.live id = false by unfold DT.live; rw [DT.nobody_has]; rfl]; exact nilR_live id
  · rw [show DT.nobody.textOf id = ByteArray.empty by unfold DT.textOf; rw [DT.nobody_get]]; exact nilR_told id
  · rw [show DT.nobody.kidsOf id = [] by unfold DT.kidsOf; rw [DT.nobody_get]]
    exact (nil_kids id).mono fun e w' ⟨he, hb⟩ => ⟨_, he, World.ownsRow_nil _ _ _ _, hb⟩
theorem On.kidsS (h : On q T w) {id : Int} {l : List Nat} (hl : T.kidsOf id = l) (hne : l ≠ []) : ∀ W, Below w.heap.size w W → Calls Try.prog 64 #[.pointer q, I id] W (KSome l W) := fun W hb => by
  subst hl
  exact (h.kids W hb id).mono fun e w' hr => retRow_some hr hne
theorem On.kidsN (h : On q T w) {id : Int} (hl : T.kidsOf id = []) : ∀ W, Below w.heap.size w W → Calls Try.prog 64 #[.pointer q, I id] W (KNone W) := fun W hb => by
  refine (h.kids W hb id).mono fun e w' hr => ?_
  rw [hl] at hr
  exact retRow_none hr
end
end Go.Proofs.Ytnnjlpkjpbbklaa

-- OrdW: Package order walked: Behind, Next, Prev. Conditions: a tree that is told of.
namespace Go.Proofs.Ytnnjlpkjpbbklaa
open Go.RowKit

theorem DT.nobody_kidsAt (i : Nat) : DT.nobody.kidsAt i = [] := rfl
def DT.behind (T : DT) (id : Int) : Int := if T.has id then DT.upI (T.behindO id.toNat) else -1

section
variable {q : Option Addr} {T : DT} {w : World}

set_option maxRecDepth 100000 in
set_option maxHeartbeats 1000000 in
theorem behind_any (h : On q T w) (id : Int) : Calls Try.prog 73 #[.pointer q, I id] w (Ret (I (T.behind id)) w) := by
  cases hh : T.has id with
  | false =>
    have H1 := Lib.hid (show ∀ W, Below _ _ W → Calls Try.prog 42 #[.pointer _, I id] W fun e w' => e = .returned (.bool false) ∧ W = w' from fun W hb => by have h0 := (h).has W hb id; rw [hh] at h0; exact h0)
    have e : T.behind id = -1 := by unfold DT.behind; rw [hh]; rfl
    rw [e]
    clear h hh e
    go_enter Try.func73, Try.ntmps73
    go_wp2_with fail
    go_loopw [1] (fun s1 wr => s1 = .int .i64 id ∧ wr = w) (fun _ _ => 0)
    case atStart => exact ⟨rfl, rfl⟩
    case round =>
      obtain ⟨rfl, rfl⟩ := hrel
      go_wp2_with ((with_reducible refine ((H1).out _ (by repeat (first | exact Below.refl _ _ | assumption | (refine Below.setCell ?_ (by first | (simp; done) | (simp; omega) | omega) _) | (refine Below.alloc ?_ (by first | (simp; done) | (simp; omega) | omega) _) | (refine Below.drew ?_) | (refine Below.drewN' ?_ _)))).mono ?_); rintro e w' ⟨rfl, rfl⟩)
      go_ret
      exact ⟨rfl, (by repeat (first | exact Below.refl _ _ | assumption | (refine Below.setCell ?_ (by first | (simp; done) | (simp; omega) | omega) _) | (refine Below.alloc ?_ (by first | (simp; done) | (simp; omega) | omega) _) | (refine Below.drew ?_) | (refine Below.drewN' ?_ _)))⟩
  | true =>
    obtain ⟨i, n, rfl, hi⟩ := DT.has_get hh
    have hW : T.WF := by
      rcases h.sound with hW | rfl
      · exact hW
      · cases hi
    have e : T.behind (i : Int) = DT.upI (T.behindO i) := by unfold DT.behind; rw [hh]; simp
    rw [e]
    have HO := Lib.hid h
    have HW := Lib.hid hW
    have HI := Lib.hid hi
    obtain ⟨r, hr⟩ : ∃ r, r = T.behindO i := ⟨_, rfl⟩
    rw [← hr]
    have HR := Lib.hid hr
    clear h hh hi hW e hr
    go_enter Try.func73, Try.ntmps73
    go_wp2_with fail
    go_loopw [1, 4] (fun s1 _ wr => ∃ j : Nat, s1 = .int .i64 (j : Int) ∧ Hid (∃ m, T.at_ j = some m) ∧ Hid (r = T.behindO j) ∧ Hid (Below w.heap.size w wr)) (fun s1 _ _ => T.depthF DT.fuel (intOf s1).toNat)
    case atStart => exact ⟨i, rfl, ⟨n, HI.out⟩, HR.out, Below.refl _ _⟩
    case round =>
      obtain ⟨j, rfl, hm, hb, hw⟩ := hrel
      obtain ⟨m, hm⟩ := hm.out
      have H1 := Lib.hid (show ∀ W, Below _ _ W → Calls Try.prog 42 #[.pointer _, I (j : Int)] W fun e w' => e = .returned (.bool true) ∧ W = w' from fun W hb => by have h0 := (HO.out).has W hb (j : Int); rw [DT.has_some hm] at h0; exact h0)
      cases hu : m.up with
      | none =>
        have H2 := Lib.hid (show ∀ W, Below _ _ W → Calls Try.prog 49 #[.pointer _, I (j : Int)] W fun e w' => e = .returned (I (-1)) ∧ W = w' from fun W hb => by have h0 := (HO.out).parent W hb (j : Int); rw [DT.upOf_nat hm, hu, upI_none] at h0; exact h0)
        have hr : r = none := by rw [hb.out]; exact HW.out.behind_root hm hu
        have HR' := Lib.hid hr
        have hw1 := hw.out
        clear hm hu hb hr
        go_wp2_with (first | ((with_reducible refine ((H1).out _ (by repeat (first | exact Below.refl _ _ | assumption | (refine Below.setCell ?_ (by first | (simp; done) | (simp; omega) | omega) _) | (refine Below.alloc ?_ (by first | (simp; done) | (simp; omega) | omega) _) | (refine Below.drew ?_) | (refine Below.drewN' ?_ _)))).mono ?_); rintro e w' ⟨rfl, rfl⟩) | ((with_reducible refine ((H2).out _ (by repeat (first | exact Below.refl _ _ | assumption | (refine Below.setCell ?_ (by first | (simp; done) | (simp; omega) | omega) _) | (refine Below.alloc ?_ (by first | (simp; done) | (simp; omega) | omega) _) | (refine Below.drew ?_) | (refine Below.drewN' ?_ _)))).mono ?_); rintro e w' ⟨rfl, rfl⟩))
        go_ret
        exact ⟨by rw [HR'.out]; rfl, (by repeat (first | exact Below.refl _ _ | assumption | (refine Below.setCell ?_ (by first | (simp; done) | (simp; omega) | omega) _) | (refine Below.alloc ?_ (by first | (simp; done) | (simp; omega) | omega) _) | (refine Below.drew ?_) | (refine Below.drewN' ?_ _)))⟩
      | some p =>
        obtain ⟨mp, hp, hk⟩ := HW.out.par _ _ _ hm hu
        have H2 := Lib.hid (show ∀ W, Below _ _ W → Calls Try.prog 49 #[.pointer _, I (j : Int)] W fun e w' => e = .returned (I (p : Int)) ∧ W = w' from fun W hb => by have h0 := (HO.out).parent W hb (j : Int); rw [DT.upOf_nat hm, hu, upI_some] at h0; exact h0)
        have H3 := HO.out.kidsS (DT.kidsOf_nat hp) (fun e => by rw [e] at hk; cases hk)
        have H4 := Lib.hid (show ∀ W, Below _ _ W → Calls Try.prog 50 #[.pointer _, I (j : Int)] W fun e w' => e = .returned (I ((mp.kids.idxOf j : Nat) : Int)) ∧ W = w' from fun W hb => by have h0 := (HO.out).index W hb (j : Int); rw [DT.indexOf_kid hm hu hp hk] at h0; exact h0)
        have hbe := HW.out.behind_up hm hu hp
        have hbb : Hid (r = (mp.kids[mp.kids.idxOf j + 1]?).or (T.behindO p)) := by rw [hb.out]; exact hbe
        have hde := Lib.hid (HW.out.depth_up hm hu)
        have hlx : mp.kids.idxOf j < mp.kids.length := List.idxOf_lt_length_of_mem hk
        have hlk := kids_len HW.out hp
        have hnl := HW.out.nodes_le
        have HP := Lib.hid hp
        have H3 := Lib.hid H3
        have hw1 := hw.out
        have hzw := hw1.size
        clear hm hu hb hp hk hbe
        generalize mp.kids.idxOf j = x at *
        generalize hks : mp.kids = ks at *
        have HKS := Lib.hid hks
        clear hks
        by_cases hlt : x + 1 < ks.length
        · have hd1 : decide (x + 1 < ks.length) = true := by simp; omega
          have hr2 : Hid (r = some ks[x + 1]) := by have := hbb.out; rw [List.getElem?_eq_getElem hlt] at this; exact this
          go_wp2_with (first | ((with_reducible refine ((H1).out _ (by repeat (first | exact Below.refl _ _ | assumption | (refine Below.setCell ?_ (by first | (simp; done) | (simp; omega) | omega) _) | (refine Below.alloc ?_ (by first | (simp; done) | (simp; omega) | omega) _) | (refine Below.drew ?_) | (refine Below.drewN' ?_ _)))).mono ?_); rintro e w' ⟨rfl, rfl⟩) | ((with_reducible refine ((H2).out _ (by repeat (first | exact Below.refl _ _ | assumption | (refine Below.setCell ?_ (by first | (simp; done) | (simp; omega) | omega) _) | (refine Below.alloc ?_ (by first | (simp; done) | (simp; omega) | omega) _) | (refine Below.drew ?_) | (refine Below.drewN' ?_ _)))).mono ?_); rintro e w' ⟨rfl, rfl⟩) | ((with_reducible refine ((H4).out _ (by repeat (first | exact Below.refl _ _ | assumption | (refine Below.setCell ?_ (by first | (simp; done) | (simp; omega) | omega) _) | (refine Below.alloc ?_ (by first | (simp; done) | (simp; omega) | omega) _) | (refine Below.drew ?_) | (refine Below.drewN' ?_ _)))).mono ?_); rintro e w' ⟨rfl, rfl⟩) | ((with_reducible refine (H3.out _ (by repeat (first | exact Below.refl _ _ | assumption | (refine Below.setCell ?_ (by first | (simp; done) | (simp; omega) | omega) _) | (refine Below.alloc ?_ (by first | (simp; done) | (simp; omega) | omega) _) | (refine Below.drew ?_) | (refine Below.drewN' ?_ _)))).mono ?_); rintro e w1 ⟨b, cap, rfl, hc1, hc2, hb1, hb2, hcell, hbw⟩; have hbw1 : Below w.heap.size w w1 := Below.trans (by exact (by repeat (first | exact Below.refl _ _ | assumption | (refine Below.setCell ?_ (by first | (simp; done) | (simp; omega) | omega) _) | (refine Below.alloc ?_ (by first | (simp; done) | (simp; omega) | omega) _) | (refine Below.drew ?_) | (refine Below.drewN' ?_ _)))) (hbw.mono (by first | (simp; done) | (simp; omega) | omega)); have hcx := hcell (x + 1) hlt; clear hcell))
          go_ret
          exact ⟨by rw [hr2.out]; rfl, (by repeat (first | exact Below.refl _ _ | assumption | (refine Below.setCell ?_ (by first | (simp; done) | (simp; omega) | omega) _) | (refine Below.alloc ?_ (by first | (simp; done) | (simp; omega) | omega) _) | (refine Below.drew ?_) | (refine Below.drewN' ?_ _)))⟩
        · have hd1 : decide (x + 1 < ks.length) = false := by simp; omega
          have hr2 : Hid (r = T.behindO p) := by have := hbb.out; rw [List.getElem?_eq_none (by omega)] at this; exact this
          go_wp2_with (first | ((with_reducible refine ((H1).out _ (by repeat (first | exact Below.refl _ _ | assumption | (refine Below.setCell ?_ (by first | (simp; done) | (simp; omega) | omega) _) | (refine Below.alloc ?_ (by first | (simp; done) | (simp; omega) | omega) _) | (refine Below.drew ?_) | (refine Below.drewN' ?_ _)))).mono ?_); rintro e w' ⟨rfl, rfl⟩) | ((with_reducible refine ((H2).out _ (by repeat (first | exact Below.refl _ _ | assumption | (refine Below.setCell ?_ (by first | (simp; done) | (simp; omega) | omega) _) | (refine Below.alloc ?_ (by first | (simp; done) | (simp; omega) | omega) _) | (refine Below.drew ?_) | (refine Below.drewN' ?_ _)))).mono ?_); rintro e w' ⟨rfl, rfl⟩) | ((with_reducible refine ((H4).out _ (by repeat (first | exact Below.refl _ _ | assumption | (refine Below.setCell ?_ (by first | (simp; done) | (simp; omega) | omega) _) | (refine Below.alloc ?_ (by first | (simp; done) | (simp; omega) | omega) _) | (refine Below.drew ?_) | (refine Below.drewN' ?_ _)))).mono ?_); rintro e w' ⟨rfl, rfl⟩) | ((with_reducible refine (H3.out _ (by repeat (first | exact Below.refl _ _ | assumption | (refine Below.setCell ?_ (by first | (simp; done) | (simp; omega) | omega) _) | (refine Below.alloc ?_ (by first | (simp; done) | (simp; omega) | omega) _) | (refine Below.drew ?_) | (refine Below.drewN' ?_ _)))).mono ?_); rintro e w1 ⟨b, cap, rfl, hc1, hc2, hb1, hb2, hcell, hbw⟩; have hbw1 : Below w.heap.size w w1 := Below.trans (by exact (by repeat (first | exact Below.refl _ _ | assumption | (refine Below.setCell ?_ (by first | (simp; done) | (simp; omega) | omega) _) | (refine Below.alloc ?_ (by first | (simp; done) | (simp; omega) | omega) _) | (refine Below.drew ?_) | (refine Below.drewN' ?_ _)))) (hbw.mono (by first | (simp; done) | (simp; omega) | omega)); clear hcell))
          exact ⟨⟨p, rfl, ⟨_, HP.out⟩, hr2.out, (by repeat (first | exact Below.refl _ _ | assumption | (refine Below.setCell ?_ (by first | (simp; done) | (simp; omega) | omega) _) | (refine Below.alloc ?_ (by first | (simp; done) | (simp; omega) | omega) _) | (refine Below.drew ?_) | (refine Below.drewN' ?_ _)))⟩, by simp [intOf]; have := hde.out; omega⟩
end
end Go.Proofs.Ytnnjlpkjpbbklaa

-- OrdW2: Package order walked: Next, Prev, Within, root, kid. Conditions: a tree that is told of.
namespace Go.Proofs.Ytnnjlpkjpbbklaa
open Go.RowKit

def DT.next (T : DT) (id : Int) : Int := if T.has id then DT.upI (T.nextO id.toNat) else -1
def DT.prev (T : DT) (id : Int) : Int := if T.has id then DT.upI (T.prevO id.toNat) else -1

section
variable {q : Option Addr} {T : DT} {w : World}
theorem On.wf (h : On q T w) {i : Nat} {n : Nd} (hi : T.at_ i = some n) : T.WF := by
  rcases h.sound with hW | rfl
  · exact hW
  · cases hi

set_option maxRecDepth 100000 in
set_option maxHeartbeats 1000000 in
theorem next_any (h : On q T w) (id : Int) : Calls Try.prog 71 #[.pointer q, I id] w (Ret (I (T.next id)) w) := by
  have HB := Lib.hid (fun W (hb : Below w.heap.size w W) => behind_any (h.keep hb) id)
  cases hk : T.kidsOf id with
  | nil =>
    have e : T.next id = T.behind id := by
      unfold DT.next DT.behind
      cases hh : T.has id with
      | false => rfl
      | true =>
        obtain ⟨i, n, rfl, hi⟩ := DT.has_get hh
        rw [DT.kidsOf_nat hi] at hk
        simp only [if_true, Int.toNat_natCast]
        rw [(h.wf hi).next_eq hi, hk]
        rfl
    have H3 := Lib.hid (h.kidsN hk)
    rw [e]
    clear h hk e
    go_enter Try.func71, Try.ntmps71
    go_wp2_with (first | ((with_reducible refine (H3.out _ (by repeat (first | exact Below.refl _ _ | assumption | (refine Below.setCell ?_ (by first | (simp; done) | (simp; omega) | omega) _) | (refine Below.alloc ?_ (by first | (simp; done) | (simp; omega) | omega) _) | (refine Below.drew ?_) | (refine Below.drewN' ?_ _)))).mono ?_); rintro e w1 ⟨A, cap, rfl, hc1, hbw⟩; have hbw1 : Below w.heap.size w w1 := Below.trans (by exact (by repeat (first | exact Below.refl _ _ | assumption | (refine Below.setCell ?_ (by first | (simp; done) | (simp; omega) | omega) _) | (refine Below.alloc ?_ (by first | (simp; done) | (simp; omega) | omega) _) | (refine Below.drew ?_) | (refine Below.drewN' ?_ _)))) (hbw.mono (by first | (simp; done) | (simp; omega) | omega)); have hzw1 := hbw1.size) | ((with_reducible refine (HB.out _ (by repeat (first | exact Below.refl _ _ | assumption | (refine Below.setCell ?_ (by first | (simp; done) | (simp; omega) | omega) _) | (refine Below.alloc ?_ (by first | (simp; done) | (simp; omega) | omega) _) | (refine Below.drew ?_) | (refine Below.drewN' ?_ _)))).mono ?_); rintro e w2 ⟨rfl, hb⟩; have hz_w2 := hb.size; (try simp only [World.size_alloc, World.size_setCell, World.size_drew, size_drewN'] at hz_w2); have hb_w2 : Below w.heap.size w w2 := Below.trans (by exact (by repeat (first | exact Below.refl _ _ | assumption | (refine Below.setCell ?_ (by first | (simp; done) | (simp; omega) | omega) _) | (refine Below.alloc ?_ (by first | (simp; done) | (simp; omega) | omega) _) | (refine Below.drew ?_) | (refine Below.drewN' ?_ _)))) (hb.mono (by first | (simp; done) | (simp; omega) | omega)); obtain ⟨hc_w2, hf_w2⟩ := bcell hb_w2; clear hb))
    go_ret
    exact ⟨rfl, (by repeat (first | exact Below.refl _ _ | assumption | (refine Below.setCell ?_ (by first | (simp; done) | (simp; omega) | omega) _) | (refine Below.alloc ?_ (by first | (simp; done) | (simp; omega) | omega) _) | (refine Below.drew ?_) | (refine Below.drewN' ?_ _)))⟩
  | cons k r =>
    have e : T.next id = (k : Int) := by
      unfold DT.next
      cases hh : T.has id with
      | false =>
        have : T.get id = none := by unfold DT.has at hh; cases hg : T.get id with | none => rfl | some n => rw [hg] at hh; cases hh
        unfold DT.kidsOf at hk; rw [this] at hk; cases hk
      | true =>
        obtain ⟨i, n, rfl, hi⟩ := DT.has_get hh
        rw [DT.kidsOf_nat hi] at hk
        simp only [if_true, Int.toNat_natCast]
        rw [(h.wf hi).next_eq hi, hk]
        rfl
    have H3 := Lib.hid (h.kidsS hk (by simp))
    rw [e]
    obtain ⟨m, hm⟩ : ∃ m, m = (k :: r).length := ⟨_, rfl⟩
    have hm1 : 0 < m := by rw [hm]; simp
    have HM := Lib.hid hm
    clear h hk e hm
    go_enter Try.func71, Try.ntmps71
    go_wp2_with (first | ((with_reducible refine (H3.out _ (by repeat (first | exact Below.refl _ _ | assumption | (refine Below.setCell ?_ (by first | (simp; done) | (simp; omega) | omega) _) | (refine Below.alloc ?_ (by first | (simp; done) | (simp; omega) | omega) _) | (refine Below.drew ?_) | (refine Below.drewN' ?_ _)))).mono ?_); rintro e w1 ⟨b, cap, rfl, hc1, hc2, hb1, hb2, hcell, hbw⟩; have hbw1 : Below w.heap.size w w1 := Below.trans (by exact (by repeat (first | exact Below.refl _ _ | assumption | (refine Below.setCell ?_ (by first | (simp; done) | (simp; omega) | omega) _) | (refine Below.alloc ?_ (by first | (simp; done) | (simp; omega) | omega) _) | (refine Below.drew ?_) | (refine Below.drewN' ?_ _)))) (hbw.mono (by first | (simp; done) | (simp; omega) | omega)); have hzw1 := hbw1.size; have hcx := hcell 0 (by simp); rw [← HM.out] at hc1 ⊢; simp only [List.getElem_cons_zero] at hcx; clear hcell))
    go_ret
    exact ⟨rfl, (by repeat (first | exact Below.refl _ _ | assumption | (refine Below.setCell ?_ (by first | (simp; done) | (simp; omega) | omega) _) | (refine Below.alloc ?_ (by first | (simp; done) | (simp; omega) | omega) _) | (refine Below.drew ?_) | (refine Below.drewN' ?_ _)))⟩

set_option maxRecDepth 100000 in
set_option maxHeartbeats 1000000 in
theorem root_any (h : On q T w) {i : Nat} {n : Nd} (hi : T.at_ i = some n) : Calls Try.prog 145 #[.pointer q, I (i : Int)] w (Ret (I (T.root i : Int)) w) := by
  have HW := Lib.hid (h.wf hi)
  have HO := Lib.hid h
  have HI := Lib.hid hi
  obtain ⟨r, hr⟩ : ∃ r, r = T.root i := ⟨_, rfl⟩
  rw [← hr]
  have HR := Lib.hid hr
  clear h hi hr
  go_enter Try.func145, Try.ntmps145
  go_wp2_with fail
  go_loopw [1] (fun s1 wr => ∃ j : Nat, s1 = .int .i64 (j : Int) ∧ Hid (∃ m, T.at_ j = some m) ∧ Hid (r = T.root j) ∧ Hid (Below w.heap.size w wr)) (fun s1 _ => T.depthF DT.fuel (intOf s1).toNat)
  case atStart => exact ⟨i, rfl, ⟨n, HI.out⟩, HR.out, Below.refl _ _⟩
  case round =>
    obtain ⟨j, rfl, hm, hb, hw⟩ := hrel
    obtain ⟨m, hm⟩ := hm.out
    have hw1 := hw.out
    have hstep := HW.out.root_step hm
    cases hu : m.up with
    | none =>
      have H2 := Lib.hid (show ∀ W, Below _ _ W → Calls Try.prog 49 #[.pointer _, I (j : Int)] W fun e w' => e = .returned (I (-1)) ∧ W = w' from fun W hb => by have h0 := (HO.out).parent W hb (j : Int); rw [DT.upOf_nat hm, hu, upI_none] at h0; exact h0)
      rw [hu] at hstep
      have hr : Hid (r = j) := by rw [hb.out]; exact hstep
      clear hm hu hb hstep
      go_wp2_with (first | ((with_reducible refine ((H2).out _ (by repeat (first | exact Below.refl _ _ | assumption | (refine Below.setCell ?_ (by first | (simp; done) | (simp; omega) | omega) _) | (refine Below.alloc ?_ (by first | (simp; done) | (simp; omega) | omega) _) | (refine Below.drew ?_) | (refine Below.drewN' ?_ _)))).mono ?_); rintro e w' ⟨rfl, rfl⟩))
      go_ret
      exact ⟨by rw [hr.out]; rfl, (by repeat (first | exact Below.refl _ _ | assumption | (refine Below.setCell ?_ (by first | (simp; done) | (simp; omega) | omega) _) | (refine Below.alloc ?_ (by first | (simp; done) | (simp; omega) | omega) _) | (refine Below.drew ?_) | (refine Below.drewN' ?_ _)))⟩
    | some p =>
      obtain ⟨mp, hp, hk⟩ := HW.out.par _ _ _ hm hu
      have H2 := Lib.hid (show ∀ W, Below _ _ W → Calls Try.prog 49 #[.pointer _, I (j : Int)] W fun e w' => e = .returned (I (p : Int)) ∧ W = w' from fun W hb => by have h0 := (HO.out).parent W hb (j : Int); rw [DT.upOf_nat hm, hu, upI_some] at h0; exact h0)
      rw [hu] at hstep
      have hr : Hid (r = T.root p) := by rw [hb.out]; exact hstep
      have hde := Lib.hid (HW.out.depth_up hm hu)
      have HP := Lib.hid hp
      clear hm hu hb hstep hp hk
      go_wp2_with (first | ((with_reducible refine ((H2).out _ (by repeat (first | exact Below.refl _ _ | assumption | (refine Below.setCell ?_ (by first | (simp; done) | (simp; omega) | omega) _) | (refine Below.alloc ?_ (by first | (simp; done) | (simp; omega) | omega) _) | (refine Below.drew ?_) | (refine Below.drewN' ?_ _)))).mono ?_); rintro e w' ⟨rfl, rfl⟩))
      exact ⟨⟨p, rfl, ⟨_, HP.out⟩, hr.out, (by repeat (first | exact Below.refl _ _ | assumption | (refine Below.setCell ?_ (by first | (simp; done) | (simp; omega) | omega) _) | (refine Below.alloc ?_ (by first | (simp; done) | (simp; omega) | omega) _) | (refine Below.drew ?_) | (refine Below.drewN' ?_ _)))⟩, by simp [intOf]; have := hde.out; omega⟩

/-- The kid of o by which i is within it. -/
theorem DT.WF.way_unique (h : T.WF) {i o k k' : Nat} {mk mk' : Nd} (hk : T.at_ k = some mk) (hk' : T.at_ k' = some mk') (hu : mk.up = some o) (hu' : mk'.up = some o) (ha : DT.Anc T i k) (ha' : DT.Anc T i k') : k = k' :=
  h.anc_same ha ha' hk hk' (by rw [h.depth_up hk hu, h.depth_up hk' hu'])

set_option maxRecDepth 100000 in
set_option maxHeartbeats 1000000 in
theorem kid_any (h : On q T w) {i k o : Nat} {n mk : Nd} (hi : T.at_ i = some n) (hk : T.at_ k = some mk) (hu : mk.up = some o) (ha : DT.Anc T i k) : Calls Try.prog 147 #[.pointer q, I (i : Int), I (o : Int)] w (Ret (I (k : Int)) w) := by
  have HW := Lib.hid (h.wf hi)
  have HO := Lib.hid h
  have HI := Lib.hid (And.intro hi ha)
  have HK := Lib.hid (And.intro hk hu)
  clear h hi hk hu ha
  go_enter Try.func147, Try.ntmps147
  go_wp2_with fail
  go_loopw [1] (fun s1 wr => ∃ j : Nat, s1 = .int .i64 (j : Int) ∧ Hid (∃ m, T.at_ j = some m) ∧ Hid (DT.Anc T j k) ∧ Hid (Below w.heap.size w wr)) (fun s1 _ => T.depthF DT.fuel (intOf s1).toNat)
  case atStart => exact ⟨i, rfl, ⟨n, HI.out.1⟩, HI.out.2, Below.refl _ _⟩
  case round =>
    obtain ⟨j, rfl, hm, hb, hw⟩ := hrel
    obtain ⟨m, hm⟩ := hm.out
    have hw1 := hw.out
    by_cases hjk : j = k
    · subst hjk
      have H2 := Lib.hid (show ∀ W, Below _ _ W → Calls Try.prog 49 #[.pointer _, I (j : Int)] W fun e w' => e = .returned (I (o : Int)) ∧ W = w' from fun W hb => by have h0 := (HO.out).parent W hb (j : Int); rw [DT.upOf_nat HK.out.1, HK.out.2, upI_some] at h0; exact h0)
      have hd : ((o : Int) != (o : Int)) = false := by simp
      clear hm hb
      go_wp2_with (first | ((with_reducible refine ((H2).out _ (by repeat (first | exact Below.refl _ _ | assumption | (refine Below.setCell ?_ (by first | (simp; done) | (simp; omega) | omega) _) | (refine Below.alloc ?_ (by first | (simp; done) | (simp; omega) | omega) _) | (refine Below.drew ?_) | (refine Below.drewN' ?_ _)))).mono ?_); rintro e w' ⟨rfl, rfl⟩))
      go_ret
      exact ⟨rfl, (by repeat (first | exact Below.refl _ _ | assumption | (refine Below.setCell ?_ (by first | (simp; done) | (simp; omega) | omega) _) | (refine Below.alloc ?_ (by first | (simp; done) | (simp; omega) | omega) _) | (refine Below.drew ?_) | (refine Below.drewN' ?_ _)))⟩
    · cases hu : m.up with
      | none => exact (hjk (hb.out.root hm hu)).elim
      | some p =>
        obtain ⟨mp, hp, hk⟩ := HW.out.par _ _ _ hm hu
        have H2 := Lib.hid (show ∀ W, Below _ _ W → Calls Try.prog 49 #[.pointer _, I (j : Int)] W fun e w' => e = .returned (I (p : Int)) ∧ W = w' from fun W hb => by have h0 := (HO.out).parent W hb (j : Int); rw [DT.upOf_nat hm, hu, upI_some] at h0; exact h0)
        have ha : DT.Anc T p k := (hb.out.step_inv hm hu).resolve_left hjk
        have hpo : p ≠ o := fun e => by
          subst e
          have h1 := HW.out.anc_depth hp ha
          have h2 := HW.out.depth_up HK.out.1 HK.out.2
          omega
        have hd : ((p : Int) != (o : Int)) = true := by simp; omega
        have hde := Lib.hid (HW.out.depth_up hm hu)
        have HP := Lib.hid (And.intro hp ha)
        clear hm hu hb hp hk ha hpo hjk
        go_wp2_with (first | ((with_reducible refine ((H2).out _ (by repeat (first | exact Below.refl _ _ | assumption | (refine Below.setCell ?_ (by first | (simp; done) | (simp; omega) | omega) _) | (refine Below.alloc ?_ (by first | (simp; done) | (simp; omega) | omega) _) | (refine Below.drew ?_) | (refine Below.drewN' ?_ _)))).mono ?_); rintro e w' ⟨rfl, rfl⟩))
        exact ⟨⟨p, rfl, ⟨_, HP.out.1⟩, HP.out.2, (by repeat (first | exact Below.refl _ _ | assumption | (refine Below.setCell ?_ (by first | (simp; done) | (simp; omega) | omega) _) | (refine Below.alloc ?_ (by first | (simp; done) | (simp; omega) | omega) _) | (refine Below.drew ?_) | (refine Below.drewN' ?_ _)))⟩, by simp [intOf]; have := hde.out; omega⟩

theorem DT.isWithin_none (T : DT) (o : Int) : T.isWithin (-1) o = false := by unfold DT.isWithin DT.has; rw [DT.get_neg (by omega)]; rfl
theorem DT.WF.isWithin_self (h : T.WF) {j : Nat} {m : Nd} (hm : T.at_ j = some m) : T.isWithin (j : Int) (j : Int) = true := by rw [DT.isWithin_nat hm, h.within_step hm]; simp
theorem DT.WF.isWithin_root (h : T.WF) {j : Nat} {m : Nd} (hm : T.at_ j = some m) (hu : m.up = none) {o : Int} (ho : (j : Int) ≠ o) : T.isWithin (j : Int) o = T.isWithin (-1) o := by
  rw [DT.isWithin_none]
  unfold DT.isWithin
  by_cases h0 : 0 ≤ o
  · obtain ⟨o, rfl⟩ : ∃ k : Nat, o = k := ⟨o.toNat, by omega⟩
    rw [Int.toNat_natCast, Int.toNat_natCast, h.within_step hm, hu]
    have : ¬ j = o := by omega
    simp [this]
  · simp [h0]
theorem DT.WF.isWithin_up (h : T.WF) {j p : Nat} {m : Nd} (hm : T.at_ j = some m) (hu : m.up = some p) {o : Int} (ho : (j : Int) ≠ o) : T.isWithin (j : Int) o = T.isWithin (p : Int) o := by
  obtain ⟨mp, hp, _⟩ := h.par _ _ _ hm hu
  unfold DT.isWithin
  rw [DT.has_some hm, DT.has_some hp]
  by_cases h0 : 0 ≤ o
  · obtain ⟨o, rfl⟩ : ∃ k : Nat, o = k := ⟨o.toNat, by omega⟩
    rw [Int.toNat_natCast, Int.toNat_natCast, h.within_step hm, hu]
    have : ¬ j = o := by omega
    have hb : (j == o) = false := by simpa using this
    simp [hb]
  · simp [h0]

set_option maxRecDepth 100000 in
set_option maxHeartbeats 1000000 in
theorem within09_any (h : On q T w) (id o : Int) : Calls Try.prog 78 #[.pointer q, I id, I o] w (Ret (.bool (T.isWithin id o)) w) := by
  cases hh : T.has id with
  | false =>
    have H1 := Lib.hid (show ∀ W, Below _ _ W → Calls Try.prog 42 #[.pointer _, I id] W fun e w' => e = .returned (.bool false) ∧ W = w' from fun W hb => by have h0 := (h).has W hb id; rw [hh] at h0; exact h0)
    have e : T.isWithin id o = false := by unfold DT.isWithin; rw [hh]; rfl
    rw [e]
    clear h hh e
    go_enter Try.func78, Try.ntmps78
    go_wp2_with fail
    go_loopw [1] (fun s1 wr => s1 = .int .i64 id ∧ wr = w) (fun _ _ => 0)
    case atStart => exact ⟨rfl, rfl⟩
    case round =>
      obtain ⟨rfl, rfl⟩ := hrel
      go_wp2_with ((with_reducible refine ((H1).out _ (by repeat (first | exact Below.refl _ _ | assumption | (refine Below.setCell ?_ (by first | (simp; done) | (simp; omega) | omega) _) | (refine Below.alloc ?_ (by first | (simp; done) | (simp; omega) | omega) _) | (refine Below.drew ?_) | (refine Below.drewN' ?_ _)))).mono ?_); rintro e w' ⟨rfl, rfl⟩)
      go_ret
      exact ⟨rfl, (by repeat (first | exact Below.refl _ _ | assumption | (refine Below.setCell ?_ (by first | (simp; done) | (simp; omega) | omega) _) | (refine Below.alloc ?_ (by first | (simp; done) | (simp; omega) | omega) _) | (refine Below.drew ?_) | (refine Below.drewN' ?_ _)))⟩
  | true =>
    obtain ⟨i, n, rfl, hi⟩ := DT.has_get hh
    have HW := Lib.hid (h.wf hi)
    have HO := Lib.hid h
    have HI := Lib.hid hi
    obtain ⟨r, hr⟩ : ∃ r, r = T.isWithin (i : Int) o := ⟨_, rfl⟩
    rw [← hr]
    have HR := Lib.hid hr
    clear h hi hr hh
    go_enter Try.func78, Try.ntmps78
    go_wp2_with fail
    go_loopw [1] (fun s1 wr => ∃ j : Int, s1 = .int .i64 j ∧ Hid (j = -1 ∨ ∃ i : Nat, ∃ m, j = (i : Int) ∧ T.at_ i = some m) ∧ Hid (r = T.isWithin j o) ∧ Hid (Below w.heap.size w wr)) (fun s1 _ => curMeasure T s1)
    case atStart => exact ⟨i, rfl, .inr ⟨i, n, rfl, HI.out⟩, HR.out, Below.refl _ _⟩
    case round =>
      obtain ⟨j, rfl, hm, hb, hw⟩ := hrel
      have hw1 := hw.out
      rcases hm.out with rfl | ⟨j, m, rfl, hm1⟩
      · have hn : T.has (-1) = false := by unfold DT.has; rw [DT.get_neg (by omega)]; rfl
        have H1 := Lib.hid (show ∀ W, Below _ _ W → Calls Try.prog 42 #[.pointer _, I (-1)] W fun e w' => e = .returned (.bool false) ∧ W = w' from fun W hb => by have h0 := (HO.out).has W hb (-1); rw [hn] at h0; exact h0)
        have hr : Hid (r = false) := Lib.hid (hb.out.trans (DT.isWithin_none T o))
        clear hb hm hn
        go_wp2_with (first | ((with_reducible refine ((H1).out _ (by repeat (first | exact Below.refl _ _ | assumption | (refine Below.setCell ?_ (by first | (simp; done) | (simp; omega) | omega) _) | (refine Below.alloc ?_ (by first | (simp; done) | (simp; omega) | omega) _) | (refine Below.drew ?_) | (refine Below.drewN' ?_ _)))).mono ?_); rintro e w' ⟨rfl, rfl⟩))
        go_ret
        exact ⟨by rw [hr.out]; rfl, (by repeat (first | exact Below.refl _ _ | assumption | (refine Below.setCell ?_ (by first | (simp; done) | (simp; omega) | omega) _) | (refine Below.alloc ?_ (by first | (simp; done) | (simp; omega) | omega) _) | (refine Below.drew ?_) | (refine Below.drewN' ?_ _)))⟩
      · have H1 := Lib.hid (show ∀ W, Below _ _ W → Calls Try.prog 42 #[.pointer _, I (j : Int)] W fun e w' => e = .returned (.bool true) ∧ W = w' from fun W hb => by have h0 := (HO.out).has W hb (j : Int); rw [DT.has_some hm1] at h0; exact h0)
        by_cases hjo : (j : Int) = o
        · subst hjo
          have hr : Hid (r = true) := Lib.hid (hb.out.trans (HW.out.isWithin_self hm1))
          have hd : ((j : Int) != (j : Int)) = false := by simp
          clear hm hm1 hb
          go_wp2_with (first | ((with_reducible refine ((H1).out _ (by repeat (first | exact Below.refl _ _ | assumption | (refine Below.setCell ?_ (by first | (simp; done) | (simp; omega) | omega) _) | (refine Below.alloc ?_ (by first | (simp; done) | (simp; omega) | omega) _) | (refine Below.drew ?_) | (refine Below.drewN' ?_ _)))).mono ?_); rintro e w' ⟨rfl, rfl⟩))
          go_ret
          exact ⟨by rw [hr.out]; rfl, (by repeat (first | exact Below.refl _ _ | assumption | (refine Below.setCell ?_ (by first | (simp; done) | (simp; omega) | omega) _) | (refine Below.alloc ?_ (by first | (simp; done) | (simp; omega) | omega) _) | (refine Below.drew ?_) | (refine Below.drewN' ?_ _)))⟩
        · have hd : ((j : Int) != o) = true := by simp; omega
          cases hu : m.up with
          | none =>
            have H2 := Lib.hid (show ∀ W, Below _ _ W → Calls Try.prog 49 #[.pointer _, I (j : Int)] W fun e w' => e = .returned (I (-1)) ∧ W = w' from fun W hb => by have h0 := (HO.out).parent W hb (j : Int); rw [DT.upOf_nat hm1, hu, upI_none] at h0; exact h0)
            have hr : Hid (r = T.isWithin (-1) o) := Lib.hid (hb.out.trans (HW.out.isWithin_root hm1 hu hjo))
            clear hm hm1 hb hu
            go_wp2_with (first | ((with_reducible refine ((H1).out _ (by repeat (first | exact Below.refl _ _ | assumption | (refine Below.setCell ?_ (by first | (simp; done) | (simp; omega) | omega) _) | (refine Below.alloc ?_ (by first | (simp; done) | (simp; omega) | omega) _) | (refine Below.drew ?_) | (refine Below.drewN' ?_ _)))).mono ?_); rintro e w' ⟨rfl, rfl⟩) | ((with_reducible refine ((H2).out _ (by repeat (first | exact Below.refl _ _ | assumption | (refine Below.setCell ?_ (by first | (simp; done) | (simp; omega) | omega) _) | (refine Below.alloc ?_ (by first | (simp; done) | (simp; omega) | omega) _) | (refine Below.drew ?_) | (refine Below.drewN' ?_ _)))).mono ?_); rintro e w' ⟨rfl, rfl⟩))
            exact ⟨⟨-1, rfl, .inl rfl, hr.out, (by repeat (first | exact Below.refl _ _ | assumption | (refine Below.setCell ?_ (by first | (simp; done) | (simp; omega) | omega) _) | (refine Below.alloc ?_ (by first | (simp; done) | (simp; omega) | omega) _) | (refine Below.drew ?_) | (refine Below.drewN' ?_ _)))⟩, by rw [curMeasure_some]; exact Nat.succ_pos _⟩
          | some p =>
            obtain ⟨mp, hp, hk⟩ := HW.out.par _ _ _ hm1 hu
            have H2 := Lib.hid (show ∀ W, Below _ _ W → Calls Try.prog 49 #[.pointer _, I (j : Int)] W fun e w' => e = .returned (I (p : Int)) ∧ W = w' from fun W hb => by have h0 := (HO.out).parent W hb (j : Int); rw [DT.upOf_nat hm1, hu, upI_some] at h0; exact h0)
            have hr : Hid (r = T.isWithin (p : Int) o) := Lib.hid (hb.out.trans (HW.out.isWithin_up hm1 hu hjo))
            have hde := Lib.hid (HW.out.depth_up hm1 hu)
            have HP := Lib.hid hp
            clear hm hm1 hu hb hp hk
            go_wp2_with (first | ((with_reducible refine ((H1).out _ (by repeat (first | exact Below.refl _ _ | assumption | (refine Below.setCell ?_ (by first | (simp; done) | (simp; omega) | omega) _) | (refine Below.alloc ?_ (by first | (simp; done) | (simp; omega) | omega) _) | (refine Below.drew ?_) | (refine Below.drewN' ?_ _)))).mono ?_); rintro e w' ⟨rfl, rfl⟩) | ((with_reducible refine ((H2).out _ (by repeat (first | exact Below.refl _ _ | assumption | (refine Below.setCell ?_ (by first | (simp; done) | (simp; omega) | omega) _) | (refine Below.alloc ?_ (by first | (simp; done) | (simp; omega) | omega) _) | (refine Below.drew ?_) | (refine Below.drewN' ?_ _)))).mono ?_); rintro e w' ⟨rfl, rfl⟩))
            exact ⟨⟨p, rfl, .inr ⟨p, _, rfl, HP.out⟩, hr.out, (by repeat (first | exact Below.refl _ _ | assumption | (refine Below.setCell ?_ (by first | (simp; done) | (simp; omega) | omega) _) | (refine Below.alloc ?_ (by first | (simp; done) | (simp; omega) | omega) _) | (refine Below.drew ?_) | (refine Below.drewN' ?_ _)))⟩, by rw [curMeasure_some, curMeasure_some]; have := hde.out; omega⟩

set_option maxRecDepth 100000 in
set_option maxHeartbeats 1000000 in
theorem prev_any (h : On q T w) (id : Int) : Calls Try.prog 72 #[.pointer q, I id] w (Ret (I (T.prev id)) w) := by
  by_cases hx : T.indexOf id ≤ 0
  · have e : T.prev id = T.upOf id := by
      unfold DT.prev
      cases hh : T.has id with
      | false =>
        have : T.get id = none := by unfold DT.has at hh; cases hg : T.get id with | none => rfl | some n => rw [hg] at hh; cases hh
        unfold DT.upOf; rw [this]; rfl
      | true =>
        obtain ⟨i, n, rfl, hi⟩ := DT.has_get hh
        rw [DT.upOf_nat hi]
        simp only [if_true, Int.toNat_natCast]
        unfold DT.prevO
        rw [DT.up_of hi]
        cases hu : n.up with
        | none => rfl
        | some p =>
          obtain ⟨mp, hp, hk⟩ := (h.wf hi).par _ _ _ hi hu
          rw [DT.indexOf_kid hi hu hp hk] at hx
          dsimp only
          rw [DT.kidsAt_eq hp, show mp.kids.idxOf i = 0 by omega]
    have H1 := Lib.hid (fun W (hb : Below w.heap.size w W) => h.index W hb id)
    have H2 := Lib.hid (fun W (hb : Below w.heap.size w W) => h.parent W hb id)
    have hd : decide (T.indexOf id ≤ 0) = true := by simp [hx]
    rw [e]
    clear h e hx
    generalize T.indexOf id = x at *
    generalize T.upOf id = u at *
    go_enter Try.func72, Try.ntmps72
    go_wp2_with (first | ((with_reducible refine ((H1).out _ (by repeat (first | exact Below.refl _ _ | assumption | (refine Below.setCell ?_ (by first | (simp; done) | (simp; omega) | omega) _) | (refine Below.alloc ?_ (by first | (simp; done) | (simp; omega) | omega) _) | (refine Below.drew ?_) | (refine Below.drewN' ?_ _)))).mono ?_); rintro e w' ⟨rfl, rfl⟩) | ((with_reducible refine ((H2).out _ (by repeat (first | exact Below.refl _ _ | assumption | (refine Below.setCell ?_ (by first | (simp; done) | (simp; omega) | omega) _) | (refine Below.alloc ?_ (by first | (simp; done) | (simp; omega) | omega) _) | (refine Below.drew ?_) | (refine Below.drewN' ?_ _)))).mono ?_); rintro e w' ⟨rfl, rfl⟩))
    go_ret
    exact ⟨rfl, (by repeat (first | exact Below.refl _ _ | assumption | (refine Below.setCell ?_ (by first | (simp; done) | (simp; omega) | omega) _) | (refine Below.alloc ?_ (by first | (simp; done) | (simp; omega) | omega) _) | (refine Below.drew ?_) | (refine Below.drewN' ?_ _)))⟩
  · cases hh : T.has id with
    | false =>
      exfalso
      apply hx
      have : T.get id = none := by unfold DT.has at hh; cases hg : T.get id with | none => rfl | some n => rw [hg] at hh; cases hh
      unfold DT.indexOf DT.upOf
      rw [this]
      dsimp only
      rw [DT.get_neg (by omega)]
      simp
    | true =>
      obtain ⟨i, n, rfl, hi⟩ := DT.has_get hh
      have hW := h.wf hi
      cases hu : n.up with
      | none => rw [DT.indexOf_root hi hu] at hx; omega
      | some p =>
        obtain ⟨mp, hp, hk⟩ := hW.par _ _ _ hi hu
        have hxe := DT.indexOf_kid hi hu hp hk
        rw [hxe] at hx
        have hlx : mp.kids.idxOf i < mp.kids.length := List.idxOf_lt_length_of_mem hk
        have hlk := kids_len hW hp
        have hnl := hW.nodes_le
        have hkj : mp.kids.idxOf i - 1 < mp.kids.length := by omega
        have e : T.prev (i : Int) = (T.last mp.kids[mp.kids.idxOf i - 1] : Int) := by
          unfold DT.prev
          rw [hh]
          simp only [if_true, Int.toNat_natCast]
          unfold DT.prevO
          rw [DT.up_of hi, hu]
          dsimp only
          rw [DT.kidsAt_eq hp]
          obtain ⟨y, hy⟩ : ∃ y, mp.kids.idxOf i = y + 1 := ⟨mp.kids.idxOf i - 1, by omega⟩
          have hyl : y < mp.kids.length := by omega
          simp only [hy, Nat.add_sub_cancel, List.getD, List.getElem?_eq_getElem hyl, Option.getD_some]
          rfl
        obtain ⟨mk, hmk, _⟩ := hW.kid _ _ _ hp (List.getElem_mem hkj)
        have H1 := Lib.hid (show ∀ W, Below _ _ W → Calls Try.prog 50 #[.pointer _, I (i : Int)] W fun e w' => e = .returned (I ((mp.kids.idxOf i : Nat) : Int)) ∧ W = w' from fun W hb => by have h0 := (h).index W hb (i : Int); rw [hxe] at h0; exact h0)
        have H2 := Lib.hid (show ∀ W, Below _ _ W → Calls Try.prog 49 #[.pointer _, I (i : Int)] W fun e w' => e = .returned (I (p : Int)) ∧ W = w' from fun W hb => by have h0 := (h).parent W hb (i : Int); rw [DT.upOf_nat hi, hu, upI_some] at h0; exact h0)
        have H3 := Lib.hid (h.kidsS (DT.kidsOf_nat hp) (fun e => by rw [e] at hk; cases hk))
        rw [e]
        have HK := Lib.hid hmk
        have HO := Lib.hid h
        have HW := Lib.hid hW
        clear h e hh hi hu hp hk hxe hmk hW
        generalize hks : mp.kids = ks at *
        generalize ks.idxOf i = x at *
        generalize hkk : ks[x - 1] = k at *
        obtain ⟨r, hr⟩ : ∃ r, r = T.last k := ⟨_, rfl⟩
        rw [← hr]
        have HR := Lib.hid hr
        have HKK := Lib.hid hkk
        clear hks hr hkk
        have hx1 : IntKind.i64.wrap ((x : Int) - 1) = ((x - 1 : Nat) : Int) := by rw [IntWalk.i64_in _ (by omega)]; omega
        have hd : decide ((x : Int) ≤ 0) = false := by simp; omega
        have hd2 : decide ((x : Nat) ≤ 0) = false := by simp; omega
        go_enter Try.func72, Try.ntmps72
        go_wp2_with (first | ((with_reducible refine ((H1).out _ (by repeat (first | exact Below.refl _ _ | assumption | (refine Below.setCell ?_ (by first | (simp; done) | (simp; omega) | omega) _) | (refine Below.alloc ?_ (by first | (simp; done) | (simp; omega) | omega) _) | (refine Below.drew ?_) | (refine Below.drewN' ?_ _)))).mono ?_); rintro e w' ⟨rfl, rfl⟩) | ((with_reducible refine ((H2).out _ (by repeat (first | exact Below.refl _ _ | assumption | (refine Below.setCell ?_ (by first | (simp; done) | (simp; omega) | omega) _) | (refine Below.alloc ?_ (by first | (simp; done) | (simp; omega) | omega) _) | (refine Below.drew ?_) | (refine Below.drewN' ?_ _)))).mono ?_); rintro e w' ⟨rfl, rfl⟩) | ((with_reducible refine (H3.out _ (by repeat (first | exact Below.refl _ _ | assumption | (refine Below.setCell ?_ (by first | (simp; done) | (simp; omega) | omega) _) | (refine Below.alloc ?_ (by first | (simp; done) | (simp; omega) | omega) _) | (refine Below.drew ?_) | (refine Below.drewN' ?_ _)))).mono ?_); rintro e w1 ⟨b, cap, rfl, hc1, hc2, hb1, hb2, hcell, hbw⟩; have hbw1 : Below w.heap.size w w1 := Below.trans (by exact (by repeat (first | exact Below.refl _ _ | assumption | (refine Below.setCell ?_ (by first | (simp; done) | (simp; omega) | omega) _) | (refine Below.alloc ?_ (by first | (simp; done) | (simp; omega) | omega) _) | (refine Below.drew ?_) | (refine Below.drewN' ?_ _)))) (hbw.mono (by first | (simp; done) | (simp; omega) | omega)); have hzw1 := hbw1.size; have hcx := hcell (x - 1) (by omega); rw [HKK.out] at hcx; clear hcell))
        go_loopw [1, 6] (fun s1 _ wr => ∃ j : Nat, s1 = .int .i64 (j : Int) ∧ Hid (∃ m, T.at_ j = some m) ∧ Hid (r = T.last j) ∧ Hid (Below w.heap.size w wr)) (fun s1 _ _ => 64 - T.depthF DT.fuel (intOf s1).toNat)
        case atStart => exact ⟨k, rfl, ⟨_, HK.out⟩, HR.out, (by repeat (first | exact Below.refl _ _ | assumption | (refine Below.setCell ?_ (by first | (simp; done) | (simp; omega) | omega) _) | (refine Below.alloc ?_ (by first | (simp; done) | (simp; omega) | omega) _) | (refine Below.drew ?_) | (refine Below.drewN' ?_ _)))⟩
        case round =>
          obtain ⟨j, rfl, hm, hb, hw⟩ := hrel
          obtain ⟨m, hm1⟩ := hm.out
          have hw1 := hw.out
          have hzw := hw1.size
          have hls := HW.out.last_step hm1
          cases hl : m.kids with
          | nil =>
            have H4 := Lib.hid (HO.out.kidsN ((DT.kidsOf_nat hm1).trans hl))
            rw [hl] at hls
            have hr : Hid (r = j) := Lib.hid (hb.out.trans hls)
            clear hm hm1 hb hls hl
            go_wp2_with (first | ((with_reducible refine (H4.out _ (by repeat (first | exact Below.refl _ _ | assumption | (refine Below.setCell ?_ (by first | (simp; done) | (simp; omega) | omega) _) | (refine Below.alloc ?_ (by first | (simp; done) | (simp; omega) | omega) _) | (refine Below.drew ?_) | (refine Below.drewN' ?_ _)))).mono ?_); rintro e w2 ⟨A, cap2, rfl, hc2', hbw2⟩; have hbw3 : Below w.heap.size w w2 := Below.trans (by exact (by repeat (first | exact Below.refl _ _ | assumption | (refine Below.setCell ?_ (by first | (simp; done) | (simp; omega) | omega) _) | (refine Below.alloc ?_ (by first | (simp; done) | (simp; omega) | omega) _) | (refine Below.drew ?_) | (refine Below.drewN' ?_ _)))) (hbw2.mono (by first | (simp; done) | (simp; omega) | omega))))
            go_ret
            exact ⟨by rw [hr.out]; rfl, (by repeat (first | exact Below.refl _ _ | assumption | (refine Below.setCell ?_ (by first | (simp; done) | (simp; omega) | omega) _) | (refine Below.alloc ?_ (by first | (simp; done) | (simp; omega) | omega) _) | (refine Below.drew ?_) | (refine Below.drewN' ?_ _)))⟩
          | cons c l =>
            have hne : m.kids ≠ [] := by rw [hl]; simp
            have H4 := Lib.hid (HO.out.kidsS (DT.kidsOf_nat hm1) hne)
            have hml := kids_len HW.out hm1
            have hmp : 0 < m.kids.length := List.length_pos_iff.2 hne
            have hgl : m.kids.getLast? = some (m.kids[m.kids.length - 1]'(by omega)) := by rw [List.getLast?_eq_getElem?, List.getElem?_eq_getElem (by omega)]
            rw [hgl] at hls
            have hcm : m.kids[m.kids.length - 1]'(by omega) ∈ m.kids := List.getElem_mem _
            obtain ⟨mc, hmc, _, hdc⟩ := HW.out.kid_depth hm1 hcm
            have hr : Hid (r = T.last (m.kids[m.kids.length - 1]'(by omega))) := Lib.hid (hb.out.trans hls)
            have hdl := HW.out.depth_le hmc
            have HC := Lib.hid (And.intro hmc (And.intro hdc hdl))
            clear hm hm1 hb hls hl hcm hmc hdc hdl hgl hne
            have hlast : Hid (∀ W e w', KSome m.kids W e w' → ∃ b cap, e = .returned (.slice (some ⟨b, 0, none⟩) m.kids.length cap) ∧ cap ≤ maxLen ∧ w'.cell? ⟨b, m.kids.length - 1, none⟩ = some (I ((m.kids[m.kids.length - 1]'(by omega) : Nat) : Int)) ∧ Below W.heap.size W w') := fun W e w' ⟨b, cap, he, _, h2, _, _, h5, h6⟩ => ⟨b, cap, he, h2, h5 _ (by omega), h6⟩
            generalize m.kids[m.kids.length - 1]'(by omega) = z at *
            generalize hKM : m.kids.length = M at *
            have HKM := Lib.hid hKM
            clear hKM
            have hM1 : IntKind.i64.wrap ((M : Int) - 1) = ((M - 1 : Nat) : Int) := by rw [IntWalk.i64_in _ (by omega)]; omega
            have hd3 : ((M : Int) == 0) = false := by simp; omega
            go_wp2_with (first | ((with_reducible refine (H4.out _ (by repeat (first | exact Below.refl _ _ | assumption | (refine Below.setCell ?_ (by first | (simp; done) | (simp; omega) | omega) _) | (refine Below.alloc ?_ (by first | (simp; done) | (simp; omega) | omega) _) | (refine Below.drew ?_) | (refine Below.drewN' ?_ _)))).mono ?_); rintro e w2 hks; obtain ⟨b2, cap2, rfl, hc2', hcz, hbw2⟩ := hlast.out _ _ _ hks; clear hks; have hbw3 : Below w.heap.size w w2 := Below.trans (by exact (by repeat (first | exact Below.refl _ _ | assumption | (refine Below.setCell ?_ (by first | (simp; done) | (simp; omega) | omega) _) | (refine Below.alloc ?_ (by first | (simp; done) | (simp; omega) | omega) _) | (refine Below.drew ?_) | (refine Below.drewN' ?_ _)))) (hbw2.mono (by first | (simp; done) | (simp; omega) | omega))))
            exact ⟨⟨z, rfl, ⟨_, HC.out.1⟩, hr.out, (by repeat (first | exact Below.refl _ _ | assumption | (refine Below.setCell ?_ (by first | (simp; done) | (simp; omega) | omega) _) | (refine Below.alloc ?_ (by first | (simp; done) | (simp; omega) | omega) _) | (refine Below.drew ?_) | (refine Below.drewN' ?_ _)))⟩, by simp [intOf]; have := HC.out.2; omega⟩
end
end Go.Proofs.Ytnnjlpkjpbbklaa

-- OrdW3: Package order walked: Length, May. Conditions: a tree that is told of.
namespace Go.Proofs.Ytnnjlpkjpbbklaa
open Go.RowKit

/-- How many characters a text has. -/
def runeLen (s : Bytes) : Nat := (runesOf s).length
def cntFrom (s : Bytes) (b i : Nat) : Nat := (Conv.runesFrom s b i #[]).size
theorem runesFrom_acc (s : Bytes) : ∀ (b i : Nat) (acc : Array Value), (Conv.runesFrom s b i acc).size = acc.size + cntFrom s b i
  | 0, i, acc => by simp [Conv.runesFrom, cntFrom]
  | b + 1, i, acc => by
    unfold cntFrom
    unfold Conv.runesFrom
    split
    · dsimp only
      rw [runesFrom_acc s b _ (acc.push _), runesFrom_acc s b _ (#[].push _)]
      simp only [Array.size_push, List.size_toArray, List.length_nil]
      omega
    · simp
theorem cntFrom_step (s : Bytes) (b i : Nat) (h : i < s.size) : cntFrom s (b + 1) i = 1 + cntFrom s b (i + (Utf8.decode s i).2) := by
  rw [cntFrom]
  unfold Conv.runesFrom
  rw [if_pos h]
  dsimp only
  rw [runesFrom_acc]
  rfl
theorem cntFrom_end (s : Bytes) (b i : Nat) (h : ¬ i < s.size) : cntFrom s b i = 0 := by
  cases b with
  | zero => rfl
  | succ b => rw [cntFrom]; unfold Conv.runesFrom; rw [if_neg h]; rfl
theorem cntFrom_all (s : Bytes) : cntFrom s s.size 0 = runeLen s := by unfold cntFrom runeLen; rw [runesOf_length]
theorem rune_pos (s : Bytes) (pos : Nat) (h : pos < s.size) : 1 ≤ (Utf8.decode s pos).2 := by
  by_cases ha : (s[pos]'h).toNat < 128
  · rw [decode_ascii s pos h ha]
    exact Nat.le_refl _
  · exact (decode_high s pos h (by omega)).2
theorem runeLen_le (s : Bytes) : runeLen s ≤ s.size := runesOf_le s

section
variable {q : Option Addr} {T : DT} {w : World}

set_option maxRecDepth 100000 in
set_option maxHeartbeats 1000000 in
theorem length_any (h : On q T w) (id : Int) : Calls Try.prog 75 #[.pointer q, I id] w (Ret (I (T.length runeLen id)) w) := by
  cases hg : T.get id with
  | none =>
    have H1 := Lib.hid (show ∀ W, Below _ _ W → Calls Try.prog 61 #[.pointer _, I id] W fun e w' => e = .returned (I (-1)) ∧ W = w' from fun W hb => by have h0 := (h).tag W hb id; rw [show T.tagOf id = -1 by unfold DT.tagOf; rw [hg]] at h0; exact h0)
    rw [DT.length_none hg]
    clear h hg
    go_enter Try.func75, Try.ntmps75
    go_wp2_with (first | ((with_reducible refine ((H1).out _ (by repeat (first | exact Below.refl _ _ | assumption | (refine Below.setCell ?_ (by first | (simp; done) | (simp; omega) | omega) _) | (refine Below.alloc ?_ (by first | (simp; done) | (simp; omega) | omega) _) | (refine Below.drew ?_) | (refine Below.drewN' ?_ _)))).mono ?_); rintro e w' ⟨rfl, rfl⟩))
    go_ret
    exact ⟨rfl, (by repeat (first | exact Below.refl _ _ | assumption | (refine Below.setCell ?_ (by first | (simp; done) | (simp; omega) | omega) _) | (refine Below.alloc ?_ (by first | (simp; done) | (simp; omega) | omega) _) | (refine Below.drew ?_) | (refine Below.drewN' ?_ _)))⟩
  | some n =>
    obtain ⟨h0, hi, e0⟩ := DT.get_some hg
    obtain ⟨i, rfl⟩ : ∃ i : Nat, id = i := ⟨id.toNat, by omega⟩
    rw [Int.toNat_natCast] at hi
    have hW := h.wf hi
    have ht := hW.tags _ _ hi
    by_cases ht0 : n.tag = 0
    · have H1 := Lib.hid (show ∀ W, Below _ _ W → Calls Try.prog 61 #[.pointer _, I (i : Int)] W fun e w' => e = .returned (I 0) ∧ W = w' from fun W hb => by have h0 := (h).tag W hb (i : Int); rw [DT.tagOf_nat hi, ht0] at h0; exact h0)
      have H2 := Lib.hid (show ∀ W, Below _ _ W → Calls Try.prog 63 #[.pointer _, I (i : Int)] W fun e w' => e = .returned (.string n.text) ∧ W = w' from fun W hb => by have h0 := (h).told W hb (i : Int); rw [show T.textOf (i : Int) = n.text by unfold DT.textOf; rw [hg]] at h0; exact h0)
      have e : T.length runeLen (i : Int) = (runeLen n.text : Int) := by unfold DT.length; rw [hg]; simp [ht0]
      have hsz := hW.txt _ _ hi
      rw [e]
      clear h hg hi hW ht ht0 h0 e0 e
      generalize n.text = s at *
      obtain ⟨L, hL⟩ : ∃ L, L = runeLen s := ⟨_, rfl⟩
      have hLs : L ≤ s.size := by rw [hL]; exact runeLen_le s
      rw [← hL]
      have HL := Lib.hid hL
      clear hL
      go_enter Try.func75, Try.ntmps75
      go_wp2_with (first | ((with_reducible refine ((H1).out _ (by repeat (first | exact Below.refl _ _ | assumption | (refine Below.setCell ?_ (by first | (simp; done) | (simp; omega) | omega) _) | (refine Below.alloc ?_ (by first | (simp; done) | (simp; omega) | omega) _) | (refine Below.drew ?_) | (refine Below.drewN' ?_ _)))).mono ?_); rintro e w' ⟨rfl, rfl⟩) | ((with_reducible refine ((H2).out _ (by repeat (first | exact Below.refl _ _ | assumption | (refine Below.setCell ?_ (by first | (simp; done) | (simp; omega) | omega) _) | (refine Below.alloc ?_ (by first | (simp; done) | (simp; omega) | omega) _) | (refine Below.drew ?_) | (refine Below.drewN' ?_ _)))).mono ?_); rintro e w' ⟨rfl, rfl⟩))
      go_loopw [5] (fun s5 wr => ∃ (pos b k : Nat), wr = w.iter s pos ∧ s5 = .int .i64 (k : Int) ∧ Hid (k + cntFrom s b pos = L) ∧ s.size ≤ pos + b ∧ k ≤ L) (fun _ wr => s.size - wr.iterPos w.heap.size)
      case atStart => exact ⟨0, s.size, 0, rfl, rfl, by rw [HL.out, ← cntFrom_all, Nat.zero_add]; exact Lib.hid rfl, by omega, Nat.zero_le _⟩
      case round =>
        obtain ⟨pos, b, k, rfl, rfl, hk, hb, hkL⟩ := hrel
        by_cases hp : pos < s.size
        · have hnx : ∀ ty, (Instr.next (.pointer (some ⟨w.heap.size, 0, none⟩)) true ty).run Try.prog (w.iter s pos) = _ := fun ty => run_next_any w s pos ty hp
          cases b with
          | zero => omega
          | succ b =>
            have hk2 : Hid (k + 1 + cntFrom s b (pos + (Utf8.decode s pos).2) = L) := by have := hk.out; rw [cntFrom_step s b pos hp] at this; show _ = _; omega
            have hk3 : k + 1 ≤ L := by have := hk2.out; omega
            go_wp2_with fail
            have hwd := rune_pos s pos hp
            go_roundw
            case rel => exact ⟨pos + (Utf8.decode s pos).2, b, k + 1, rfl, by go_num, hk2, by omega, hk3⟩
            case measure => simp; omega
        · have hnx : ∀ ty, (Instr.next (.pointer (some ⟨w.heap.size, 0, none⟩)) true ty).run Try.prog (w.iter s pos) = _ := fun ty => run_next_end w s pos ty hp
          have hkk : Hid (k = L) := by have := hk.out; rw [cntFrom_end s b pos hp] at this; exact this
          go_wp2_with fail
          go_ret
          exact ⟨by rw [hkk.out]; rfl, (Below.refl _ _).alloc (Nat.le_refl _) _⟩
    · have e : T.length runeLen (i : Int) = (n.kids.length : Int) := by unfold DT.length; rw [hg]; simp [ht0]
      have H1 := Lib.hid (show ∀ W, Below _ _ W → Calls Try.prog 61 #[.pointer _, I (i : Int)] W fun e w' => e = .returned (I n.tag) ∧ W = w' from fun W hb => by have h0 := (h).tag W hb (i : Int); rw [DT.tagOf_nat hi] at h0; exact h0)
      have H2 := Lib.hid (fun W (hb : Below w.heap.size w W) => h.kids W hb (i : Int))
      rw [DT.kidsOf_nat hi] at H2
      have hkl := kids_len hW hi
      have hnl := hW.nodes_le
      have hd1 : (n.tag == 0) = false := by simpa using ht0
      have hd2 : (n.tag == -1) = false := by simp; omega
      rw [e]
      clear h hg hi hW e
      generalize n.tag = tg at *
      generalize hm : n.kids.length = m at *
      have HM := Lib.hid hm
      clear hm
      go_enter Try.func75, Try.ntmps75
      go_wp2_with (first | ((with_reducible refine ((H1).out _ (by repeat (first | exact Below.refl _ _ | assumption | (refine Below.setCell ?_ (by first | (simp; done) | (simp; omega) | omega) _) | (refine Below.alloc ?_ (by first | (simp; done) | (simp; omega) | omega) _) | (refine Below.drew ?_) | (refine Below.drewN' ?_ _)))).mono ?_); rintro e w' ⟨rfl, rfl⟩) | ((with_reducible refine (H2.out _ (by repeat (first | exact Below.refl _ _ | assumption | (refine Below.setCell ?_ (by first | (simp; done) | (simp; omega) | omega) _) | (refine Below.alloc ?_ (by first | (simp; done) | (simp; omega) | omega) _) | (refine Below.drew ?_) | (refine Below.drewN' ?_ _)))).mono ?_); rintro e w2 ⟨v_w2, rfl, hown, hb⟩; obtain ⟨A_w2, c_w2, rfl⟩ := own_form hown; have HO_w2 := Lib.hid hown; clear hown; have HBb_w2 := Lib.hid hb; have hz_w2 := hb.size; (try simp only [World.size_alloc, World.size_setCell, World.size_drew, size_drewN'] at hz_w2); have hb_w2 : Below w.heap.size w w2 := Below.trans (by exact (by repeat (first | exact Below.refl _ _ | assumption | (refine Below.setCell ?_ (by first | (simp; done) | (simp; omega) | omega) _) | (refine Below.alloc ?_ (by first | (simp; done) | (simp; omega) | omega) _) | (refine Below.drew ?_) | (refine Below.drewN' ?_ _)))) (hb.mono (by first | (simp; done) | (simp; omega) | omega)); obtain ⟨hc_w2, hf_w2⟩ := bcell hb_w2; clear hb))
      go_ret
      exact ⟨rfl, (by repeat (first | exact Below.refl _ _ | assumption | (refine Below.setCell ?_ (by first | (simp; done) | (simp; omega) | omega) _) | (refine Below.alloc ?_ (by first | (simp; done) | (simp; omega) | omega) _) | (refine Below.drew ?_) | (refine Below.drewN' ?_ _)))⟩

set_option maxRecDepth 100000 in
set_option maxHeartbeats 1000000 in
theorem may_any (h : On q T w) (nd a : Int) : Calls Try.prog 76 #[.pointer q, .agg #[I nd, I a]] w (Ret (.bool (T.may runeLen ⟨nd, a⟩)) w) := by
  have HL : Hid (∀ W, Below w.heap.size w W → Calls Try.prog 75 #[.pointer q, I nd] W (Ret (I (T.length runeLen nd)) W)) := fun W hb => length_any (h.keep hb) nd
  have e : T.may runeLen ⟨nd, a⟩ = (decide (0 ≤ a) && decide (a ≤ T.length runeLen nd)) := rfl
  rw [e]
  clear h e
  generalize T.length runeLen nd = L at *
  have hB : Below w.heap.size w (w.alloc (.cells #[I nd, I a] 25)) := (Below.refl _ _).alloc (Nat.le_refl _) _
  have HB := Lib.hid hB
  clear hB
  by_cases h0 : 0 ≤ a
  · have hd : decide (0 ≤ a) = true := by simp [h0]
    rw [hd, Bool.true_and]
    go_enter Try.func76, Try.ntmps76
    go_wp2_with fail
    (refine wp_region_quiet_below (by kernel_rfl) (by kernel_rfl) ?_; (repeat (go_big_quiet_step (exact quietRet (HL.out _ (HB.out.trans ((below_regrown _ _ _).mono (by first | (simp; done) | (simp; omega) | omega))))))); refine wpQuiet_nil ?_; intro w1 hw'; have hb := below_class hw'; clear hw'; have hz_w1 := hb.size; (try simp only [World.size_alloc, World.size_setCell, World.size_drew, size_drewN'] at hz_w1); have hb_w1 : Below w.heap.size w w1 := Below.trans (by exact (by repeat (first | exact Below.refl _ _ | assumption | (refine Below.setCell ?_ (by first | (simp; done) | (simp; omega) | omega) _) | (refine Below.alloc ?_ (by first | (simp; done) | (simp; omega) | omega) _) | (refine Below.drew ?_) | (refine Below.drewN' ?_ _)))) (hb.mono (by first | (simp; done) | (simp; omega) | omega)); obtain ⟨hc_w1, hf_w1⟩ := bcell hb_w1; clear hb)
    go_wp2_with fail
    go_ret
    exact ⟨rfl, (by repeat (first | exact Below.refl _ _ | assumption | (refine Below.setCell ?_ (by first | (simp; done) | (simp; omega) | omega) _) | (refine Below.alloc ?_ (by first | (simp; done) | (simp; omega) | omega) _) | (refine Below.drew ?_) | (refine Below.drewN' ?_ _)))⟩
  · have hd : decide (0 ≤ a) = false := by simp; omega
    rw [hd, Bool.false_and]
    go_enter Try.func76, Try.ntmps76
    go_wp2_with fail
    (refine wp_region_quiet_below (by kernel_rfl) (by kernel_rfl) ?_; (repeat (go_big_quiet_step (fail))); refine wpQuiet_nil ?_; intro w1 hw'; have hb := below_class hw'; clear hw'; have hz_w1 := hb.size; (try simp only [World.size_alloc, World.size_setCell, World.size_drew, size_drewN'] at hz_w1); have hb_w1 : Below w.heap.size w w1 := Below.trans (by exact (by repeat (first | exact Below.refl _ _ | assumption | (refine Below.setCell ?_ (by first | (simp; done) | (simp; omega) | omega) _) | (refine Below.alloc ?_ (by first | (simp; done) | (simp; omega) | omega) _) | (refine Below.drew ?_) | (refine Below.drewN' ?_ _)))) (hb.mono (by first | (simp; done) | (simp; omega) | omega)); obtain ⟨hc_w1, hf_w1⟩ := bcell hb_w1; clear hb)
    go_wp2_with fail
    go_ret
    exact ⟨rfl, (by repeat (first | exact Below.refl _ _ | assumption | (refine Below.setCell ?_ (by first | (simp; done) | (simp; omega) | omega) _) | (refine Below.alloc ?_ (by first | (simp; done) | (simp; omega) | omega) _) | (refine Below.drew ?_) | (refine Below.drewN' ?_ _)))⟩
end
end Go.Proofs.Ytnnjlpkjpbbklaa

-- Slices4: slices.Reverse at []int (laid by the shelf's words), slices.Compare at []int and cmp.Compare at int (walked). Conditions: rows that lie in memory.
namespace Go.Proofs.Ytnnjlpkjpbbklaa
open Go.RowKit Go.Shelf

def laysReverse_ren : Go.Shelf.Ren := ⟨fun | 112 => 150 | n => n, fun | 28 => 81 | 3 => 3 | 4 => 4 | 0 => 0 | n => n, fun | n => n⟩
theorem laysReverse : Go.Proofs.Lays.n112 Try.prog laysReverse_ren := {
  mixed := by kernel_rfl
  f112 := Try.func150.trans (congrArg some (by kernel_rfl))
  t0 := Try.underlying0
  a0 := Try.isAgg0
  z0 := Try.sizeOf0
  v0 := Try.zeroValue0
  t3 := Try.underlying3
  a3 := Try.isAgg3
  z3 := Try.sizeOf3
  v3 := Try.zeroValue3
  t4 := Try.underlying4
  a4 := Try.isAgg4
  z4 := Try.sizeOf4
  v4 := Try.zeroValue4
  t28 := Try.underlying81
  a28 := Try.isAgg81
  z28 := Try.sizeOf81
  v28 := Try.zeroValue81 }

/-- A row of its own, turned round in place. -/
theorem reverse_any {w : World} {base n : Nat} {v : Value} {zs : List Int} (h : w.ownsRow base 3 1 v n (zs.map (Value.int .i64))) (hn : n ≤ 1000000) :
    Calls Try.prog 150 #[v] w fun e w' => e = .returned (.tuple #[]) ∧ w'.ownsRow base 3 1 v n (zs.reverse.map (Value.int .i64)) ∧ Only (fun b => v.ownBlock = some b) w w' := by
  have hl : zs.length = n := by have := h.1; simpa using this
  rcases h.2 with ⟨rfl, rfl⟩ | ⟨g, cap, cur, rfl, hb, hg, hc, hm, hs, ht⟩
  · have hz : zs = [] := List.length_eq_zero_iff.1 hl
    subst hz
    refine (Any.slices_Reverse_int_empty laysReverse none 0 w).mono ?_
    rintro e w' ⟨rfl, rfl⟩
    exact ⟨rfl, World.ownsRow_nil _ _ _ _, Only.refl _ _⟩
  · have hA : At w g 3 cur := hg
    simp only [Nat.mul_one] at hs ht
    have hcell : ∀ j, j < zs.length → w.cell? ⟨g, 0 + j, none⟩ = some (.int .i64 (zs.getD j 0)) := by
      intro j hj
      rw [Nat.zero_add, hA.cell j, ← Array.getElem?_toList]
      have h1 : (zs.map (Value.int .i64))[j]? = some (.int .i64 (zs.getD j 0)) := by
        rw [List.getElem?_map, List.getElem?_eq_getElem hj]; simp [List.getD, List.getElem?_eq_getElem hj]
      rw [← ht, List.getElem?_take] at h1
      split at h1
      · exact h1
      · cases h1
    refine (Any.slices_Reverse_int_cells laysReverse g 0 n cap zs w (by omega) (by omega) hcell (fun j _ => by rw [hA.frozen])).mono ?_
    rintro e w' ⟨rfl, q, rfl⟩
    rw [List.take_of_length_le (by omega)]
    have hA1 : At ((w.drewN q).setCells g 0 (zs.reverse.map (Value.int .i64))) g 3 (wr cur 0 (zs.reverse.map (Value.int .i64))) := At.setCells _ _ (hA.drewN q)
    have p1 := setCells_plain g (zs.reverse.map (Value.int .i64)) 0 (w.drewN q)
    refine ⟨rfl, ⟨by simp [hl], .inr ⟨g, cap, _, rfl, hb, hA1, hc, hm, by rw [wr_size, hs, Nat.mul_one], ?_⟩⟩, p1.2.1, p1.2.2.1, p1.2.2.2, Nat.le_of_eq p1.1.symm, fun k hk hn => ?_⟩
    · rw [wr_list _ _ _ (by simp; omega)]
      simp [hl]
    · exact setCells_other _ _ _ _ _ (fun e => hn (by rw [e]; rfl))

set_option maxRecDepth 100000 in
theorem isNaN_int {w : World} (x : Int) : Calls Try.prog 181 #[I x] w fun e w' => e = .returned (.bool false) ∧ w = w' := by
  have hd : (x != x) = false := by simp
  go_enter Try.func181, Try.ntmps181
  go_wp2_with fail
  go_ret
  exact ⟨rfl, rfl⟩
def cmpI (x y : Int) : Int := if x < y then -1 else if y < x then 1 else 0
set_option maxRecDepth 100000 in
theorem cmp_int {w : World} (x y : Int) : Calls Try.prog 146 #[I x, I y] w fun e w' => e = .returned (I (cmpI x y)) ∧ w = w' := by
  by_cases h1 : x < y
  · have e : cmpI x y = -1 := by unfold cmpI; rw [if_pos h1]
    have hd : decide (x < y) = true := by simp [h1]
    rw [e]
    clear e
    go_enter Try.func146, Try.ntmps146
    go_wp2_with (first | ((with_reducible refine (isNaN_int _).mono ?_); rintro e w' ⟨rfl, rfl⟩))
    go_ret
    exact ⟨rfl, rfl⟩
  · by_cases h2 : y < x
    · have e : cmpI x y = 1 := by unfold cmpI; rw [if_neg h1, if_pos h2]
      have hd : decide (x < y) = false := by simp; omega
      have hd2 : decide (y < x) = true := by simp [h2]
      rw [e]
      clear e
      go_enter Try.func146, Try.ntmps146
      go_wp2_with (first | ((with_reducible refine (isNaN_int _).mono ?_); rintro e w' ⟨rfl, rfl⟩))
      go_ret
      exact ⟨rfl, rfl⟩
    · have e : cmpI x y = 0 := by unfold cmpI; rw [if_neg h1, if_neg h2]
      have hd : decide (x < y) = false := by simp; omega
      have hd2 : decide (y < x) = false := by simp; omega
      rw [e]
      clear e
      go_enter Try.func146, Try.ntmps146
      go_wp2_with (first | ((with_reducible refine (isNaN_int _).mono ?_); rintro e w' ⟨rfl, rfl⟩))
      go_ret
      exact ⟨rfl, rfl⟩
end Go.Proofs.Ytnnjlpkjpbbklaa

-- OrdW4: Package order walked: Path. slices.Compare at []int. Conditions: a tree that is told of.
namespace Go.Proofs.Ytnnjlpkjpbbklaa
open Go.RowKit

/-- A slice value that reads as numbers, wherever it points. -/
def LI (w : World) (v : Value) (zs : List Int) : Prop := ∃ A cap, v = .slice A zs.length cap ∧ zs.length ≤ cap ∧ cap ≤ maxLen ∧ ∀ j (h : j < zs.length), ∃ b off, A = some ⟨b, off, none⟩ ∧ w.cell? ⟨b, off + j, none⟩ = some (I zs[j])
theorem LI.of_own {w : World} {base n : Nat} {v : Value} {zs : List Int} (h : w.ownsRow base 3 1 v n (zs.map (Value.int .i64))) : LI w v zs := by
  have hl : zs.length = n := by have := h.1; simpa using this
  subst hl
  rcases h.2 with ⟨rfl, h0⟩ | ⟨g, cap, cur, rfl, hb, hg, hc, hm, hs, ht⟩
  · exact ⟨none, 0, by rw [h0], by omega, Nat.zero_le _, fun j hj => by omega⟩
  · have hA : At w g 3 cur := hg
    refine ⟨_, cap, rfl, hc, hm, fun j hj => ⟨g, 0, rfl, ?_⟩⟩
    rw [Nat.zero_add, hA.cell j, ← Array.getElem?_toList]
    have h1 : (zs.map (Value.int .i64))[j]? = some (.int .i64 zs[j]) := by rw [List.getElem?_map, List.getElem?_eq_getElem hj]; rfl
    rw [← ht, List.getElem?_take] at h1
    split at h1
    · exact h1
    · cases h1
theorem LI.below {w w' : World} {v : Value} {zs : List Int} (h : LI w v zs) (hb : Below w.heap.size w w') : LI w' v zs := by
  obtain ⟨A, cap, rfl, h1, h2, hc⟩ := h
  refine ⟨A, cap, rfl, h1, h2, fun j hj => ?_⟩
  obtain ⟨b, off, rfl, hcell⟩ := hc j hj
  exact ⟨b, off, rfl, (hb.cell (World.block_lt_of_cell? w _ hcell)).trans hcell⟩


theorem cmpL_drop : ∀ (k : Nat) (zs ys : List Int) (h1 : k < zs.length) (h2 : k < ys.length), cmpL (zs.drop k) (ys.drop k) = if zs[k] < ys[k] then -1 else if ys[k] < zs[k] then 1 else cmpL (zs.drop (k + 1)) (ys.drop (k + 1)) := by
  intro k zs ys h1 h2
  rw [List.drop_eq_getElem_cons h1, List.drop_eq_getElem_cons h2]
  rfl

set_option maxRecDepth 100000 in
set_option maxHeartbeats 1000000 in
theorem compare_any {w : World} {v1 v2 : Value} {zs ys : List Int} (h1 : LI w v1 zs) (h2 : LI w v2 ys) (hn1 : zs.length ≤ 1000000) (hn2 : ys.length ≤ 1000000) :
    Calls Try.prog 148 #[v1, v2] w fun e w' => e = .returned (I (cmpL zs ys)) ∧ w = w' := by
  obtain ⟨A1, c1, rfl, hc1, hm1, g1⟩ := h1
  obtain ⟨A2, c2, rfl, hc2, hm2, g2⟩ := h2
  have G1 := Lib.hid g1
  have G2 := Lib.hid g2
  clear g1 g2
  obtain ⟨r, hr⟩ : ∃ r, r = cmpL zs ys := ⟨_, rfl⟩
  rw [← hr]
  obtain ⟨n, hn⟩ : ∃ n, n = zs.length := ⟨_, rfl⟩
  obtain ⟨m, hm⟩ : ∃ m, m = ys.length := ⟨_, rfl⟩
  rw [← hn] at hn1 hc1 ⊢
  rw [← hm] at hn2 hc2 ⊢
  have HN := Lib.hid (And.intro hn hm)
  have HR := Lib.hid hr
  clear hn hm hr
  go_enter Try.func148, Try.ntmps148
  go_wp2_with fail
  go_loop [4, 11] (fun _ s11 => ∃ k : Nat, k ≤ n ∧ k ≤ m ∧ s11 = .int .i64 (k : Int) ∧ Hid (r = cmpL (zs.drop k) (ys.drop k))) (fun _ s11 => n - (intOf s11).toNat)
  case atStart => exact ⟨0, Nat.zero_le _, Nat.zero_le _, rfl, by rw [HR.out]; exact Lib.hid rfl⟩
  case round =>
    obtain ⟨k, hk, hkm, rfl, hr⟩ := hrel
    by_cases hlt : k < n
    · have hlt1 : (k : Int) < (n : Int) := by omega
      have hz : k < zs.length := by have := HN.out.1; omega
      obtain ⟨b1, o1, e1, q1⟩ := G1.out k hz
      subst e1
      by_cases hlm : k < m
      · have hy : k < ys.length := by have := HN.out.2; omega
        obtain ⟨b2, o2, e2, q2⟩ := G2.out k hy
        subst e2
        have hd : decide (m ≤ k) = false := by simp; omega
        have hstep := cmpL_drop k zs ys hz hy
        generalize zs[k] = x at *
        generalize ys[k] = y at *
        have HC := Lib.hid (fun (W : World) => cmp_int (w := W) x y)
        by_cases a1 : x < y
        · have hcI : cmpI x y = -1 := by unfold cmpI; rw [if_pos a1]
          rw [if_pos a1] at hstep
          have hr2 : Hid (r = -1) := Lib.hid (hr.out.trans hstep)
          rw [hcI] at HC
          clear hstep hr hcI a1
          go_wp2_with ((with_reducible refine (HC.out _).mono ?_); rintro e w' ⟨rfl, rfl⟩)
          go_ret
          exact ⟨by rw [hr2.out]; rfl, rfl⟩
        · by_cases a2 : y < x
          · have hcI : cmpI x y = 1 := by unfold cmpI; rw [if_neg a1, if_pos a2]
            rw [if_neg a1, if_pos a2] at hstep
            have hr2 : Hid (r = 1) := Lib.hid (hr.out.trans hstep)
            rw [hcI] at HC
            clear hstep hr hcI a1 a2
            go_wp2_with ((with_reducible refine (HC.out _).mono ?_); rintro e w' ⟨rfl, rfl⟩)
            go_ret
            exact ⟨by rw [hr2.out]; rfl, rfl⟩
          · have hcI : cmpI x y = 0 := by unfold cmpI; rw [if_neg a1, if_neg a2]
            rw [if_neg a1, if_neg a2] at hstep
            have hr2 : Hid (r = cmpL (zs.drop (k + 1)) (ys.drop (k + 1))) := Lib.hid (hr.out.trans hstep)
            rw [hcI] at HC
            clear hstep hr hcI a1 a2
            go_wp2_with ((with_reducible refine (HC.out _).mono ?_); rintro e w' ⟨rfl, rfl⟩)
            exact ⟨⟨k + 1, by omega, by omega, by go_num, hr2.out⟩, by simp [intOf]; omega⟩
      · have hd : decide (m ≤ k) = true := by simp; omega
        have hr2 : Hid (r = 1) := by
          have := hr.out
          have e1 : ys.drop k = [] := List.drop_of_length_le (by have := HN.out.2; omega)
          rw [e1, List.drop_eq_getElem_cons hz] at this
          exact this
        clear hr
        go_wp2_with fail
        go_ret
        exact ⟨by rw [hr2.out]; rfl, rfl⟩
    · have hkn : k = n := by omega
      subst hkn
      by_cases hkm2 : k < m
      · have hd : decide (k < m) = true := by simp [hkm2]
        have hr2 : Hid (r = -1) := by
          have := hr.out
          have e1 : zs.drop k = [] := List.drop_of_length_le (by have := HN.out.1; omega)
          rw [e1, List.drop_eq_getElem_cons (show k < ys.length by have := HN.out.2; omega)] at this
          exact this
        clear hr
        go_wp2_with fail
        go_ret
        exact ⟨by rw [hr2.out]; rfl, rfl⟩
      · have hd : decide (k < m) = false := by simp; omega
        have hr2 : Hid (r = 0) := by
          have := hr.out
          have e1 : zs.drop k = [] := List.drop_of_length_le (by have := HN.out.1; omega)
          have e2 : ys.drop k = [] := List.drop_of_length_le (by have := HN.out.2; omega)
          rw [e1, e2] at this
          exact this
        clear hr
        go_wp2_with fail
        go_ret
        exact ⟨by rw [hr2.out]; rfl, rfl⟩

section
variable {q : Option Addr} {T : DT} {w : World}
theorem kidCells_ofNats (l : List Nat) : kidCells l = (DT.ofNats l).map (Value.int .i64) := by simp [kidCells, DT.ofNats]
theorem kidCells_rev (l : List Nat) : kidCells l.reverse = ((DT.ofNats l).reverse).map (Value.int .i64) := by simp [kidCells, DT.ofNats]
theorem infoIntP : ∃ i0, Try.prog.info? 3 = some i0 ∧ i0.zero = some (.int .i64 0) ∧ i0.size = 1 ∧ i0.bytes = 8 := info_parts infoInt
theorem cells_add {w : World} {b : Nat} {v : Value} {t : TypeId} (h : At w b t #[v]) : ∀ (j : Nat) (u : Value), [v][j]? = some u → w.cell? ((⟨b, 0, none⟩ : Addr).add j) = some u := by
  intro j u hu
  cases j with
  | zero => simp at hu; subst hu; rw [Addr.add_lit, h.cell]; rfl
  | succ j => simp at hu

set_option maxRecDepth 100000 in
set_option maxHeartbeats 1000000 in
theorem path_any (h : On q T w) (id : Int) : Calls Try.prog 79 #[.pointer q, I id] w (RetRow 3 1 (T.path id).length (kidCells (T.path id)) w) := by
  cases hh : T.has id with
  | false =>
    have hn : T.get id = none := by unfold DT.has at hh; cases hg : T.get id with | none => rfl | some n => rw [hg] at hh; cases hh
    have H1 := Lib.hid (show ∀ W, Below _ _ W → Calls Try.prog 49 #[.pointer _, I id] W fun e w' => e = .returned (I (-1)) ∧ W = w' from fun W hb => by have h0 := (h).parent W hb id; rw [show T.upOf id = -1 by unfold DT.upOf; rw [hn]] at h0; exact h0)
    have HRev := Lib.hid (fun (W : World) => reverse_any (w := W) (base := 0) (n := 0) (v := .slice none 0 0) (zs := []) (World.ownsRow_nil _ _ _ _) (by omega))
    have e : T.path id = [] := by unfold DT.path; rw [hh]; rfl
    rw [e]
    clear h hh hn e
    go_enter Try.func79, Try.ntmps79
    go_wp2_with fail
    go_loopw [1, 5] (fun s1 s5 wr => s1 = .int .i64 id ∧ s5 = .slice none 0 0 ∧ wr = w) (fun _ _ _ => 0)
    case atStart => exact ⟨rfl, rfl, rfl⟩
    case round =>
      obtain ⟨rfl, rfl, rfl⟩ := hrel
      go_wp2_with (first | ((with_reducible refine ((H1).out _ (by repeat (first | exact Below.refl _ _ | assumption | (refine Below.setCell ?_ (by first | (simp; done) | (simp; omega) | omega) _) | (refine Below.alloc ?_ (by first | (simp; done) | (simp; omega) | omega) _) | (refine Below.drew ?_) | (refine Below.drewN' ?_ _)))).mono ?_); rintro e w' ⟨rfl, rfl⟩) | ((with_reducible refine (HRev.out _).mono ?_); rintro e w1 ⟨rfl, hrow, hO⟩))
      go_ret
      exact ⟨_, rfl, World.ownsRow_nil _ _ _ _, hO.below fun k _ hk => by cases hk⟩
  | true =>
    obtain ⟨i, n, rfl, hi⟩ := DT.has_get hh
    rw [DT.path_nat hi]
    have HW := Lib.hid (h.wf hi)
    have HO := Lib.hid h
    have HI := Lib.hid hi
    have hdi := HW.out.depth_le hi
    obtain ⟨i0, hi0, hz0, hz1, hz2⟩ := infoIntP
    obtain ⟨P, hP⟩ : ∃ P, P = T.path_ i := ⟨_, rfl⟩
    rw [← hP]
    have HP := Lib.hid hP
    obtain ⟨D, hD⟩ : ∃ D, D = T.depthF DT.fuel i := ⟨_, rfl⟩
    rw [← hD] at hdi
    have HD := Lib.hid hD
    clear h hh hi hP hD
    go_enter Try.func79, Try.ntmps79
    go_wp2_with fail
    go_loopw [1, 5] (fun s1 s5 wr => ∃ (j : Nat) (acc : List Nat) (A : Option Addr) (k c : Nat), s1 = .int .i64 (j : Int) ∧ s5 = .slice A k c ∧ Hid (wr.ownsRow w.heap.size 3 1 (.slice A k c) k (kidCells acc)) ∧ Hid (∃ m, T.at_ j = some m) ∧ Hid (P = T.path_ j ++ acc.reverse) ∧ Hid (k + T.depthF DT.fuel j = D) ∧ k ≤ D ∧ Hid (Below w.heap.size w wr)) (fun s1 _ _ => T.depthF DT.fuel (intOf s1).toNat)
    case atStart => exact ⟨i, [], none, 0, 0, rfl, rfl, World.ownsRow_nil _ _ _ _, ⟨n, HI.out⟩, by rw [HP.out]; simp [Hid], by rw [HD.out]; exact Lib.hid (by omega), Nat.zero_le _, Below.refl _ _⟩
    case round =>
      obtain ⟨j, acc, A, k, c, rfl, rfl, hrow, hm, hp, hkd, hkD, hw⟩ := hrel
      obtain ⟨m, hm1⟩ := hm.out
      have hw1 := hw.out
      have hzw := hw1.size
      cases hu : m.up with
      | none =>
        have H2 := Lib.hid (show ∀ W, Below _ _ W → Calls Try.prog 49 #[.pointer _, I (j : Int)] W fun e w' => e = .returned (I (-1)) ∧ W = w' from fun W hb => by have h0 := (HO.out).parent W hb (j : Int); rw [DT.upOf_nat hm1, hu, upI_none] at h0; exact h0)
        have hP2 : Hid (P = acc.reverse) := by have := hp.out; rw [HW.out.path_root hm1 hu] at this; exact this
        have hrow2 := hrow.out
        rw [kidCells_ofNats] at hrow2
        have hk0 : k ≤ 1000000 := by omega
        have HRev := Lib.hid (reverse_any hrow2 hk0)
        have hl2 : Hid (acc.length = k) := by have := hrow.out.1; rw [kidCells_length, Nat.mul_one] at this; exact this
        clear hm hm1 hu hp hrow2
        go_wp2_with (first | ((with_reducible refine ((H2).out _ (by repeat (first | exact Below.refl _ _ | assumption | (refine Below.setCell ?_ (by first | (simp; done) | (simp; omega) | omega) _) | (refine Below.alloc ?_ (by first | (simp; done) | (simp; omega) | omega) _) | (refine Below.drew ?_) | (refine Below.drewN' ?_ _)))).mono ?_); rintro e w' ⟨rfl, rfl⟩) | ((with_reducible refine (HRev.out).mono ?_); rintro e w1 ⟨rfl, hrow3, hO⟩; have H3 := Lib.hid (And.intro hrow3 hO); clear hrow3 hO))
        go_ret
        refine ⟨_, rfl, ?_, hw1.trans (Below.trans (Below.refl _ _) ?_)⟩
        · rw [hP2.out, kidCells_rev, List.length_reverse, hl2.out]
          exact H3.out.1
        · have hO := H3.out.2
          exact ⟨hO.os, hO.tape, hO.output, hO.size, fun b hb => hO.block b (by omega) fun e => by have := own_ge hrow.out b e; omega⟩
      | some p =>
        obtain ⟨mp, hpp, hk⟩ := HW.out.par _ _ _ hm1 hu
        have H2 := Lib.hid (show ∀ W, Below _ _ W → Calls Try.prog 49 #[.pointer _, I (j : Int)] W fun e w' => e = .returned (I (p : Int)) ∧ W = w' from fun W hb => by have h0 := (HO.out).parent W hb (j : Int); rw [DT.upOf_nat hm1, hu, upI_some] at h0; exact h0)
        have H4 := Lib.hid (show ∀ W, Below _ _ W → Calls Try.prog 50 #[.pointer _, I (j : Int)] W fun e w' => e = .returned (I ((mp.kids.idxOf j : Nat) : Int)) ∧ W = w' from fun W hb => by have h0 := (HO.out).index W hb (j : Int); rw [DT.indexOf_kid hm1 hu hpp hk] at h0; exact h0)
        have hlx : mp.kids.idxOf j < mp.kids.length := List.idxOf_lt_length_of_mem hk
        have hlk := kids_len HW.out hpp
        have hnl := HW.out.nodes_le
        have hde := HW.out.depth_up hm1 hu
        have hpe := HW.out.path_up hm1 hu hpp
        have hP2 : Hid (P = T.path_ p ++ (acc ++ [mp.kids.idxOf j]).reverse) := by rw [hp.out, hpe]; simp [Hid]
        have hkd2 : Hid (k + 1 + T.depthF DT.fuel p = D) := by have := hkd.out; rw [hde] at this; show _ = _; omega
        have hkD2 : k + 1 ≤ D := by have := hkd2.out; omega
        have HPM := Lib.hid (And.intro hpp hde)
        clear hm hm1 hu hp hpp hk hde hpe hkd
        generalize mp.kids.idxOf j = x at *
        go_wp2_with (first
          | ((with_reducible refine ((H2).out _ (by repeat (first | exact Below.refl _ _ | assumption | (refine Below.setCell ?_ (by first | (simp; done) | (simp; omega) | omega) _) | (refine Below.alloc ?_ (by first | (simp; done) | (simp; omega) | omega) _) | (refine Below.drew ?_) | (refine Below.drewN' ?_ _)))).mono ?_); rintro e w' ⟨rfl, rfl⟩)
          | ((with_reducible refine ((H4).out _ (by repeat (first | exact Below.refl _ _ | assumption | (refine Below.setCell ?_ (by first | (simp; done) | (simp; omega) | omega) _) | (refine Below.alloc ?_ (by first | (simp; done) | (simp; omega) | omega) _) | (refine Below.drew ?_) | (refine Below.drewN' ?_ _)))).mono ?_); rintro e w' ⟨rfl, rfl⟩)
          | (at_builtin; refine wpList_append_own _ rfl (.tmp 10) (.tmp 14) 81 rfl w.heap.size 3 i0 (.int .i64 0) 1 8 Try.underlying81 hi0 hz0 hz1 hz2 rfl (by decide) (.slice A k c) k (kidCells acc) rfl ?own ⟨wr.heap.size, 0, none⟩ 1 1 [I (x : Int)] rfl ?c1 ?c2 ?c3 ?c4 ?c5 ?c6 ?grow))
        case own => exact hrow.out.alloc _
        case c1 => rfl
        case c2 => exact cells_add (At.fresh _ _ _ rfl)
        case c3 => simp [Value.oneCell']
        case c4 => unfold maxLen; omega
        case c5 => omega
        case c6 => simp; omega
        case grow =>
          intro v' w2 hown' hgrow _
          obtain ⟨A2, c2, rfl⟩ := own_form hown'
          have hbw2 : Below w.heap.size w w2 := (hw1.alloc hzw _).grown hgrow (by simp; omega) (fun b e => (own_ge hrow.out b e).1)
          have HOW := Lib.hid hown'
          clear hown' hgrow
          go_wp2_with (first | ((with_reducible refine ((H2).out _ (by repeat (first | exact Below.refl _ _ | assumption | (refine Below.setCell ?_ (by first | (simp; done) | (simp; omega) | omega) _) | (refine Below.alloc ?_ (by first | (simp; done) | (simp; omega) | omega) _) | (refine Below.drew ?_) | (refine Below.drewN' ?_ _)))).mono ?_); rintro e w' ⟨rfl, rfl⟩) | ((with_reducible refine ((H4).out _ (by repeat (first | exact Below.refl _ _ | assumption | (refine Below.setCell ?_ (by first | (simp; done) | (simp; omega) | omega) _) | (refine Below.alloc ?_ (by first | (simp; done) | (simp; omega) | omega) _) | (refine Below.drew ?_) | (refine Below.drewN' ?_ _)))).mono ?_); rintro e w' ⟨rfl, rfl⟩))
          exact ⟨⟨p, acc ++ [x], A2, k + 1, c2, rfl, rfl, (by have h1 := HOW.out; rw [show kidCells (acc ++ [x]) = kidCells acc ++ [I (x : Int)] by simp [kidCells]]; exact h1), ⟨_, HPM.out.1⟩, hP2.out, hkd2.out, hkD2, (by repeat (first | exact Below.refl _ _ | assumption | (refine Below.setCell ?_ (by first | (simp; done) | (simp; omega) | omega) _) | (refine Below.alloc ?_ (by first | (simp; done) | (simp; omega) | omega) _) | (refine Below.drew ?_) | (refine Below.drewN' ?_ _)))⟩, by simp [intOf]; have := HPM.out.2; omega⟩
end
end Go.Proofs.Ytnnjlpkjpbbklaa

-- OrdW5: Package order walked: Find. Conditions: a tree that is told of.
namespace Go.Proofs.Ytnnjlpkjpbbklaa
open Go.RowKit

def numO (o : Option Nat) : Int := match o with | none => 0 | some k => (k : Int)
theorem DT.findL_neg (T : DT) (j : Nat) {z : Int} (l : List Int) (h : z < 0) : T.findL j (z :: l) = none := by unfold DT.findL; rw [if_pos h]
theorem DT.findL_out (T : DT) (j : Nat) (y : Nat) (l : List Int) {m : Nd} (hm : T.at_ j = some m) (h : ¬ y < m.kids.length) : T.findL j ((y : Int) :: l) = none := by
  unfold DT.findL
  rw [if_neg (by omega), DT.kidsAt_eq hm, Int.toNat_natCast, List.getElem?_eq_none (by omega)]
theorem DT.findL_in (T : DT) (j : Nat) (y : Nat) (l : List Int) {m : Nd} (hm : T.at_ j = some m) (h : y < m.kids.length) : T.findL j ((y : Int) :: l) = T.findL m.kids[y] l := by
  rw [DT.findL, if_neg (by omega), DT.kidsAt_eq hm, Int.toNat_natCast, List.getElem?_eq_getElem h]

section
variable {q : Option Addr} {T : DT} {w : World}
set_option maxRecDepth 100000 in
set_option maxHeartbeats 2000000 in
theorem find_any (h : On q T w) (r : Int) {v : Value} {zs : List Int} (hv : LI w v zs) (hn : zs.length ≤ 1000000) :
    Calls Try.prog 68 #[.pointer q, I r, v] w (Ret (.tuple #[I (numO (T.find r zs)), .bool (T.find r zs).isSome]) w) := by
  have HV := Lib.hid hv
  obtain ⟨A, cap, hve, hcap, hmx, -⟩ := hv
  cases hh : T.has r with
  | false =>
    have H1 := Lib.hid (show ∀ W, Below _ _ W → Calls Try.prog 42 #[.pointer _, I r] W fun e w' => e = .returned (.bool false) ∧ W = w' from fun W hb => by have h0 := (h).has W hb r; rw [hh] at h0; exact h0)
    have e : T.find r zs = none := by unfold DT.find; rw [hh]; rfl
    rw [e]
    subst hve
    clear h hh e HV
    generalize zs.length = n at *
    go_enter Try.func68, Try.ntmps68
    go_wp2_with (first | ((with_reducible refine ((H1).out _ (by repeat (first | exact Below.refl _ _ | assumption | (refine Below.setCell ?_ (by first | (simp; done) | (simp; omega) | omega) _) | (refine Below.alloc ?_ (by first | (simp; done) | (simp; omega) | omega) _) | (refine Below.drew ?_) | (refine Below.drewN' ?_ _)))).mono ?_); rintro e w' ⟨rfl, rfl⟩))
    go_ret2
    exact ⟨rfl, (by repeat (first | exact Below.refl _ _ | assumption | (refine Below.setCell ?_ (by first | (simp; done) | (simp; omega) | omega) _) | (refine Below.alloc ?_ (by first | (simp; done) | (simp; omega) | omega) _) | (refine Below.drew ?_) | (refine Below.drewN' ?_ _)))⟩
  | true =>
    obtain ⟨i, n, rfl, hi⟩ := DT.has_get hh
    have H1 := Lib.hid (show ∀ W, Below _ _ W → Calls Try.prog 42 #[.pointer _, I (i : Int)] W fun e w' => e = .returned (.bool true) ∧ W = w' from fun W hb => by have h0 := (h).has W hb (i : Int); rw [hh] at h0; exact h0)
    have e : T.find (i : Int) zs = T.findL i zs := by unfold DT.find; rw [hh]; simp
    have HW := Lib.hid (h.wf hi)
    have HO := Lib.hid h
    have HI := Lib.hid hi
    rw [e]
    obtain ⟨R, hR⟩ : ∃ R, R = T.findL i zs := ⟨_, rfl⟩
    rw [← hR]
    have HR := Lib.hid hR
    subst hve
    clear h hh hi e hR
    obtain ⟨N, hN⟩ : ∃ N, N = zs.length := ⟨_, rfl⟩
    rw [← hN] at hn hcap HV ⊢
    have HN := Lib.hid hN
    clear hN
    go_enter Try.func68, Try.ntmps68
    go_wp2_with (first | ((with_reducible refine ((H1).out _ (by repeat (first | exact Below.refl _ _ | assumption | (refine Below.setCell ?_ (by first | (simp; done) | (simp; omega) | omega) _) | (refine Below.alloc ?_ (by first | (simp; done) | (simp; omega) | omega) _) | (refine Below.drew ?_) | (refine Below.drewN' ?_ _)))).mono ?_); rintro e w' ⟨rfl, rfl⟩))
    go_loopw [1, 6, 7, 17] (fun s1 _ _ s17 wr => ∃ (k j : Nat), k ≤ N ∧ s17 = .int .i64 (k : Int) ∧ s1 = .int .i64 (j : Int) ∧ Hid (∃ m, T.at_ j = some m) ∧ Hid (R = T.findL j (zs.drop k)) ∧ Hid (Below w.heap.size w wr)) (fun _ _ _ s17 _ => N - (intOf s17).toNat)
    case atStart => exact ⟨0, i, Nat.zero_le _, rfl, rfl, ⟨n, HI.out⟩, HR.out, Below.refl _ _⟩
    case round =>
      obtain ⟨k, j, hk, rfl, rfl, hm, hR, hw⟩ := hrel
      obtain ⟨m, hm1⟩ := hm.out
      have hw1 := hw.out
      have hzw := hw1.size
      by_cases hlt : k < N
      · have hlt1 : (k : Int) < (N : Int) := by omega
        have hkz : k < zs.length := by have := HN.out; omega
        obtain ⟨A', cap', hv', _, _, hcell⟩ := HV.out.below hw1
        injection hv' with e1 e3 e4
        subst e1
        subst e4
        clear e3
        obtain ⟨b, off, e2, hc⟩ := hcell k hkz
        subst e2
        have hdr : zs.drop k = zs[k] :: zs.drop (k + 1) := List.drop_eq_getElem_cons hkz
        rw [hdr] at hR
        clear hdr hcell
        generalize zs[k] = z at *
        by_cases hz : z < 0
        · have hR2 : Hid (R = none) := Lib.hid (hR.out.trans (DT.findL_neg _ _ _ hz))
          have H3 := Lib.hid (fun W (hb : Below w.heap.size w W) => HO.out.kids W hb (j : Int))
          have hkl := kids_len HW.out hm1
          rw [DT.kidsOf_nat hm1] at H3
          have hd : decide (z < 0) = true := by simp [hz]
          clear hm hm1 hR
          generalize m.kids.length = ml at *
          go_wp2_with (first | ((with_reducible refine (H3.out _ (by repeat (first | exact Below.refl _ _ | assumption | (refine Below.setCell ?_ (by first | (simp; done) | (simp; omega) | omega) _) | (refine Below.alloc ?_ (by first | (simp; done) | (simp; omega) | omega) _) | (refine Below.drew ?_) | (refine Below.drewN' ?_ _)))).mono ?_); rintro e w2 ⟨v_w2, rfl, hown, hb⟩; obtain ⟨A_w2, c_w2, rfl⟩ := own_form hown; have HO_w2 := Lib.hid hown; clear hown; have HBb_w2 := Lib.hid hb; have hz_w2 := hb.size; (try simp only [World.size_alloc, World.size_setCell, World.size_drew, size_drewN'] at hz_w2); have hb_w2 : Below w.heap.size w w2 := Below.trans (by exact (by repeat (first | exact Below.refl _ _ | assumption | (refine Below.setCell ?_ (by first | (simp; done) | (simp; omega) | omega) _) | (refine Below.alloc ?_ (by first | (simp; done) | (simp; omega) | omega) _) | (refine Below.drew ?_) | (refine Below.drewN' ?_ _)))) (hb.mono (by first | (simp; done) | (simp; omega) | omega)); obtain ⟨hc_w2, hf_w2⟩ := bcell hb_w2; clear hb))
          go_ret2
          exact ⟨by rw [hR2.out]; rfl, (by repeat (first | exact Below.refl _ _ | assumption | (refine Below.setCell ?_ (by first | (simp; done) | (simp; omega) | omega) _) | (refine Below.alloc ?_ (by first | (simp; done) | (simp; omega) | omega) _) | (refine Below.drew ?_) | (refine Below.drewN' ?_ _)))⟩
        · obtain ⟨y, rfl⟩ : ∃ y : Nat, z = y := ⟨z.toNat, by omega⟩
          have hd : decide ((y : Int) < 0) = false := by simp
          have hkl := kids_len HW.out hm1
          have hnl := HW.out.nodes_le
          by_cases hy : y < m.kids.length
          · have H3 := Lib.hid (HO.out.kidsS (DT.kidsOf_nat hm1) (fun e => by rw [e] at hy; simp at hy))
            have hR2 : Hid (R = T.findL m.kids[y] (zs.drop (k + 1))) := Lib.hid (hR.out.trans (DT.findL_in _ _ _ _ hm1 hy))
            obtain ⟨mk, hmk, _⟩ := HW.out.kid _ _ _ hm1 (List.getElem_mem hy)
            have HK : Hid (∃ m', T.at_ m.kids[y] = some m') := ⟨mk, hmk⟩
            have hcx : Hid (∀ W e w', KSome m.kids W e w' → ∃ b cap, e = .returned (.slice (some ⟨b, 0, none⟩) m.kids.length cap) ∧ cap ≤ maxLen ∧ w'.cell? ⟨b, y, none⟩ = some (I ((m.kids[y] : Nat) : Int)) ∧ Below W.heap.size W w') := fun W e w' ⟨b, cap, he, _, h2, _, _, h5, h6⟩ => ⟨b, cap, he, h2, h5 _ (by omega), h6⟩
            have hd2 : decide (m.kids.length ≤ y) = false := by simp; omega
            clear hm hm1 hR hmk
            generalize m.kids[y] = K at *
            generalize hml : m.kids.length = ml at *
            have HML := Lib.hid hml
            clear hml
            go_wp2_with (first | ((with_reducible refine (H3.out _ (by repeat (first | exact Below.refl _ _ | assumption | (refine Below.setCell ?_ (by first | (simp; done) | (simp; omega) | omega) _) | (refine Below.alloc ?_ (by first | (simp; done) | (simp; omega) | omega) _) | (refine Below.drew ?_) | (refine Below.drewN' ?_ _)))).mono ?_); rintro e w2 hks; obtain ⟨b2, cap2, rfl, hc2', hcz, hbw2⟩ := hcx.out _ _ _ hks; clear hks; have hbw3 : Below w.heap.size w w2 := Below.trans (by exact (by repeat (first | exact Below.refl _ _ | assumption | (refine Below.setCell ?_ (by first | (simp; done) | (simp; omega) | omega) _) | (refine Below.alloc ?_ (by first | (simp; done) | (simp; omega) | omega) _) | (refine Below.drew ?_) | (refine Below.drewN' ?_ _)))) (hbw2.mono (by first | (simp; done) | (simp; omega) | omega))))
            exact ⟨⟨k + 1, K, by omega, by go_num, rfl, HK.out, hR2.out, (by repeat (first | exact Below.refl _ _ | assumption | (refine Below.setCell ?_ (by first | (simp; done) | (simp; omega) | omega) _) | (refine Below.alloc ?_ (by first | (simp; done) | (simp; omega) | omega) _) | (refine Below.drew ?_) | (refine Below.drewN' ?_ _)))⟩, by simp [intOf]; omega⟩
          · have hR2 : Hid (R = none) := Lib.hid (hR.out.trans (DT.findL_out _ _ _ _ hm1 hy))
            have H3 := Lib.hid (fun W (hb : Below w.heap.size w W) => HO.out.kids W hb (j : Int))
            rw [DT.kidsOf_nat hm1] at H3
            have hd2 : decide (m.kids.length ≤ y) = true := by simp; omega
            clear hm hm1 hR
            generalize m.kids.length = ml at *
            go_wp2_with (first | ((with_reducible refine (H3.out _ (by repeat (first | exact Below.refl _ _ | assumption | (refine Below.setCell ?_ (by first | (simp; done) | (simp; omega) | omega) _) | (refine Below.alloc ?_ (by first | (simp; done) | (simp; omega) | omega) _) | (refine Below.drew ?_) | (refine Below.drewN' ?_ _)))).mono ?_); rintro e w2 ⟨v_w2, rfl, hown, hb⟩; obtain ⟨A_w2, c_w2, rfl⟩ := own_form hown; have HO_w2 := Lib.hid hown; clear hown; have HBb_w2 := Lib.hid hb; have hz_w2 := hb.size; (try simp only [World.size_alloc, World.size_setCell, World.size_drew, size_drewN'] at hz_w2); have hb_w2 : Below w.heap.size w w2 := Below.trans (by exact (by repeat (first | exact Below.refl _ _ | assumption | (refine Below.setCell ?_ (by first | (simp; done) | (simp; omega) | omega) _) | (refine Below.alloc ?_ (by first | (simp; done) | (simp; omega) | omega) _) | (refine Below.drew ?_) | (refine Below.drewN' ?_ _)))) (hb.mono (by first | (simp; done) | (simp; omega) | omega)); obtain ⟨hc_w2, hf_w2⟩ := bcell hb_w2; clear hb))
            go_ret2
            exact ⟨by rw [hR2.out]; rfl, (by repeat (first | exact Below.refl _ _ | assumption | (refine Below.setCell ?_ (by first | (simp; done) | (simp; omega) | omega) _) | (refine Below.alloc ?_ (by first | (simp; done) | (simp; omega) | omega) _) | (refine Below.drew ?_) | (refine Below.drewN' ?_ _)))⟩
      · have hkn : k = N := by omega
        subst hkn
        have hR2 : Hid (R = some j) := by have := hR.out; rw [List.drop_of_length_le (by have := HN.out; omega)] at this; exact this
        clear hm hm1 hR
        go_wp2_with fail
        go_ret2
        exact ⟨by rw [hR2.out]; rfl, (by repeat (first | exact Below.refl _ _ | assumption | (refine Below.setCell ?_ (by first | (simp; done) | (simp; omega) | omega) _) | (refine Below.alloc ?_ (by first | (simp; done) | (simp; omega) | omega) _) | (refine Below.drew ?_) | (refine Below.drewN' ?_ _)))⟩
end
end Go.Proofs.Ytnnjlpkjpbbklaa

-- OrdW6: Package order walked: Cmp. Conditions: a tree that is told of.
namespace Go.Proofs.Ytnnjlpkjpbbklaa
open Go.RowKit

theorem LI.of_kids {w : World} {base n : Nat} {v : Value} {l : List Nat} (h : w.ownsRow base 3 1 v n (kidCells l)) : LI w v (DT.ofNats l) := by rw [kidCells_ofNats] at h; exact LI.of_own h
theorem ofNats_length (l : List Nat) : (DT.ofNats l).length = l.length := by simp [DT.ofNats]
theorem ret_same {P : Program} {f : FuncId} {args : Array Value} {w : World} {v : Value} (h : Calls P f args w fun e w' => e = .returned v ∧ w = w') : Calls P f args w (Ret v w) := h.mono fun e w' ⟨he, hw⟩ => ⟨he, by rw [← hw]; exact Below.refl _ _⟩

section
variable {q : Option Addr} {T : DT} {w : World}

/-- Both boxes of the call. -/
def cmpW (w : World) (an aa bn ba : Int) : World := (w.alloc (.cells #[I an, I aa] 25)).alloc (.cells #[I bn, I ba] 25)
theorem cmpW_below (w : World) (an aa bn ba : Int) : Below w.heap.size w (cmpW w an aa bn ba) := ((Below.refl _ _).alloc (Nat.le_refl _) _).alloc (by simp) _

set_option maxRecDepth 100000 in
set_option maxHeartbeats 2000000 in
theorem cmp_no_any (h : On q T w) (an aa bn ba : Int) (hn : (T.cmp runeLen ⟨an, aa⟩ ⟨bn, ba⟩).2 = false) :
    Calls Try.prog 67 #[.pointer q, .agg #[I an, I aa], .agg #[I bn, I ba]] w (Ret (.tuple #[I 0, .bool false]) w) := by
  have HB := Lib.hid (cmpW_below w an aa bn ba)
  have HM1 : Hid (∀ W, Below w.heap.size w W → Calls Try.prog 76 #[.pointer q, .agg #[I an, I aa]] W (Ret (.bool (T.may runeLen ⟨an, aa⟩)) W)) := fun W hb => may_any (h.keep hb) an aa
  have HM2 : Hid (∀ W, Below w.heap.size w W → Calls Try.prog 76 #[.pointer q, .agg #[I bn, I ba]] W (Ret (.bool (T.may runeLen ⟨bn, ba⟩)) W)) := fun W hb => may_any (h.keep hb) bn ba
  cases m1 : T.may runeLen ⟨an, aa⟩ with
  | false =>
    rw [m1] at HM1
    clear h hn m1 HM2
    go_enter Try.func67, Try.ntmps67
    go_wp2_with fail
    (refine wp_region_quiet_below (by kernel_rfl) (by kernel_rfl) ?_; (repeat (go_big_quiet_step (((with_reducible refine quietRet ((HM1).out _ ?_)); exact Below.trans (by exact (by repeat (first | exact Below.refl _ _ | assumption | (refine Below.setCell ?_ (by first | (simp; done) | (simp; omega) | omega) _) | (refine Below.alloc ?_ (by first | (simp; done) | (simp; omega) | omega) _) | (refine Below.drew ?_) | (refine Below.drewN' ?_ _)))) ((below_regrown _ _ _).mono (by first | (simp; done) | (simp; omega) | omega)))))); refine wpQuiet_nil ?_; intro w1 hw'; have hb := below_class hw'; clear hw'; have hz_w1 := hb.size; (try simp only [World.size_alloc, World.size_setCell, World.size_drew, size_drewN'] at hz_w1); have hb_w1 : Below w.heap.size w w1 := Below.trans (by exact (by repeat (first | exact Below.refl _ _ | assumption | (refine Below.setCell ?_ (by first | (simp; done) | (simp; omega) | omega) _) | (refine Below.alloc ?_ (by first | (simp; done) | (simp; omega) | omega) _) | (refine Below.drew ?_) | (refine Below.drewN' ?_ _)))) (hb.mono (by first | (simp; done) | (simp; omega) | omega)); obtain ⟨hc_w1, hf_w1⟩ := bcell hb_w1; clear hb)
    go_wp2_with fail
    go_ret2
    exact ⟨rfl, (by repeat (first | exact Below.refl _ _ | assumption | (refine Below.setCell ?_ (by first | (simp; done) | (simp; omega) | omega) _) | (refine Below.alloc ?_ (by first | (simp; done) | (simp; omega) | omega) _) | (refine Below.drew ?_) | (refine Below.drewN' ?_ _)))⟩
  | true =>
    rw [m1] at HM1
    cases m2 : T.may runeLen ⟨bn, ba⟩ with
    | false =>
      rw [m2] at HM2
      clear h hn m1 m2
      go_enter Try.func67, Try.ntmps67
      go_wp2_with fail
      (refine wp_region_quiet_below (by kernel_rfl) (by kernel_rfl) ?_; (repeat (go_big_quiet_step (first | ((with_reducible refine quietRet ((HM1).out _ ?_)); exact Below.trans (by exact (by repeat (first | exact Below.refl _ _ | assumption | (refine Below.setCell ?_ (by first | (simp; done) | (simp; omega) | omega) _) | (refine Below.alloc ?_ (by first | (simp; done) | (simp; omega) | omega) _) | (refine Below.drew ?_) | (refine Below.drewN' ?_ _)))) ((below_regrown _ _ _).mono (by first | (simp; done) | (simp; omega) | omega))) | ((with_reducible refine quietRet ((HM2).out _ ?_)); exact Below.trans (by exact (by repeat (first | exact Below.refl _ _ | assumption | (refine Below.setCell ?_ (by first | (simp; done) | (simp; omega) | omega) _) | (refine Below.alloc ?_ (by first | (simp; done) | (simp; omega) | omega) _) | (refine Below.drew ?_) | (refine Below.drewN' ?_ _)))) ((below_regrown _ _ _).mono (by first | (simp; done) | (simp; omega) | omega)))))); refine wpQuiet_nil ?_; intro w1 hw'; have hb := below_class hw'; clear hw'; have hz_w1 := hb.size; (try simp only [World.size_alloc, World.size_setCell, World.size_drew, size_drewN'] at hz_w1); have hb_w1 : Below w.heap.size w w1 := Below.trans (by exact (by repeat (first | exact Below.refl _ _ | assumption | (refine Below.setCell ?_ (by first | (simp; done) | (simp; omega) | omega) _) | (refine Below.alloc ?_ (by first | (simp; done) | (simp; omega) | omega) _) | (refine Below.drew ?_) | (refine Below.drewN' ?_ _)))) (hb.mono (by first | (simp; done) | (simp; omega) | omega)); obtain ⟨hc_w1, hf_w1⟩ := bcell hb_w1; clear hb)
      go_wp2_with fail
      go_ret2
      exact ⟨rfl, (by repeat (first | exact Below.refl _ _ | assumption | (refine Below.setCell ?_ (by first | (simp; done) | (simp; omega) | omega) _) | (refine Below.alloc ?_ (by first | (simp; done) | (simp; omega) | omega) _) | (refine Below.drew ?_) | (refine Below.drewN' ?_ _)))⟩
    | true =>
      rw [m2] at HM2
      obtain ⟨i, n, ea, hi, _⟩ := DT.may_get m1
      obtain ⟨j, m, eb, hj, _⟩ := DT.may_get m2
      dsimp only at ea eb
      have HR1 : Hid (∀ W, Below w.heap.size w W → Calls Try.prog 145 #[.pointer q, I an] W (Ret (I (T.root i : Int)) W)) := fun W hb => by rw [ea]; exact root_any (h.keep hb) hi
      have HR2 : Hid (∀ W, Below w.heap.size w W → Calls Try.prog 145 #[.pointer q, I bn] W (Ret (I (T.root j : Int)) W)) := fun W hb => by rw [eb]; exact root_any (h.keep hb) hj
      have hne : T.root i ≠ T.root j := fun e => by
        rw [DT.cmp_yes m1 m2 (by rw [DT.rootI_nat (p := ⟨an, aa⟩) ea, DT.rootI_nat (p := ⟨bn, ba⟩) eb, e])] at hn
        cases hn
      have hd : (((T.root i : Nat) : Int) != ((T.root j : Nat) : Int)) = true := by simp; omega
      clear h hn m1 m2 ea eb hi hj hne
      generalize T.root i = r1 at *
      generalize T.root j = r2 at *
      go_enter Try.func67, Try.ntmps67
      go_wp2_with fail
      (refine wp_region_quiet_below (by kernel_rfl) (by kernel_rfl) ?_; (repeat (go_big_quiet_step (first | ((with_reducible refine quietRet ((HM1).out _ ?_)); exact Below.trans (by exact (by repeat (first | exact Below.refl _ _ | assumption | (refine Below.setCell ?_ (by first | (simp; done) | (simp; omega) | omega) _) | (refine Below.alloc ?_ (by first | (simp; done) | (simp; omega) | omega) _) | (refine Below.drew ?_) | (refine Below.drewN' ?_ _)))) ((below_regrown _ _ _).mono (by first | (simp; done) | (simp; omega) | omega))) | ((with_reducible refine quietRet ((HM2).out _ ?_)); exact Below.trans (by exact (by repeat (first | exact Below.refl _ _ | assumption | (refine Below.setCell ?_ (by first | (simp; done) | (simp; omega) | omega) _) | (refine Below.alloc ?_ (by first | (simp; done) | (simp; omega) | omega) _) | (refine Below.drew ?_) | (refine Below.drewN' ?_ _)))) ((below_regrown _ _ _).mono (by first | (simp; done) | (simp; omega) | omega))) | ((with_reducible refine quietRet ((HR1).out _ ?_)); exact Below.trans (by exact (by repeat (first | exact Below.refl _ _ | assumption | (refine Below.setCell ?_ (by first | (simp; done) | (simp; omega) | omega) _) | (refine Below.alloc ?_ (by first | (simp; done) | (simp; omega) | omega) _) | (refine Below.drew ?_) | (refine Below.drewN' ?_ _)))) ((below_regrown _ _ _).mono (by first | (simp; done) | (simp; omega) | omega))) | ((with_reducible refine quietRet ((HR2).out _ ?_)); exact Below.trans (by exact (by repeat (first | exact Below.refl _ _ | assumption | (refine Below.setCell ?_ (by first | (simp; done) | (simp; omega) | omega) _) | (refine Below.alloc ?_ (by first | (simp; done) | (simp; omega) | omega) _) | (refine Below.drew ?_) | (refine Below.drewN' ?_ _)))) ((below_regrown _ _ _).mono (by first | (simp; done) | (simp; omega) | omega)))))); refine wpQuiet_nil ?_; intro w1 hw'; have hb := below_class hw'; clear hw'; have hz_w1 := hb.size; (try simp only [World.size_alloc, World.size_setCell, World.size_drew, size_drewN'] at hz_w1); have hb_w1 : Below w.heap.size w w1 := Below.trans (by exact (by repeat (first | exact Below.refl _ _ | assumption | (refine Below.setCell ?_ (by first | (simp; done) | (simp; omega) | omega) _) | (refine Below.alloc ?_ (by first | (simp; done) | (simp; omega) | omega) _) | (refine Below.drew ?_) | (refine Below.drewN' ?_ _)))) (hb.mono (by first | (simp; done) | (simp; omega) | omega)); obtain ⟨hc_w1, hf_w1⟩ := bcell hb_w1; clear hb)
      go_wp2_with fail
      go_ret2
      exact ⟨rfl, (by repeat (first | exact Below.refl _ _ | assumption | (refine Below.setCell ?_ (by first | (simp; done) | (simp; omega) | omega) _) | (refine Below.alloc ?_ (by first | (simp; done) | (simp; omega) | omega) _) | (refine Below.drew ?_) | (refine Below.drewN' ?_ _)))⟩

/-- What both tests ahead say. -/
structure CmpOk (q : Option Addr) (T : DT) (w : World) (an aa bn ba : Int) (i j : Nat) (n m : Nd) : Prop where
  on : On q T w
  m1 : T.may runeLen ⟨an, aa⟩ = true
  m2 : T.may runeLen ⟨bn, ba⟩ = true
  ea : an = (i : Int)
  eb : bn = (j : Int)
  hi : T.at_ i = some n
  hj : T.at_ j = some m
  hr : T.root i = T.root j
theorem cmp_get {a b : Pl} (h : On q T w) (hn : (T.cmp runeLen a b).2 = true) : ∃ i j n m, CmpOk q T w a.node a.at_ b.node b.at_ i j n m := by
  obtain ⟨m1, m2, hr, _⟩ := DT.cmp_ok hn
  obtain ⟨i, n, ea, hi, _⟩ := DT.may_get m1
  obtain ⟨j, m, eb, hj, _⟩ := DT.may_get m2
  rw [DT.rootI_nat ea, DT.rootI_nat eb] at hr
  exact ⟨i, j, n, m, h, m1, m2, ea, eb, hi, hj, hr⟩
theorem CmpOk.calls {an aa bn ba : Int} {i j : Nat} {n m : Nd} (K : CmpOk q T w an aa bn ba i j n m) :
    (∀ W, Below w.heap.size w W → Calls Try.prog 76 #[.pointer q, .agg #[I an, I aa]] W (Ret (.bool true) W)) ∧ (∀ W, Below w.heap.size w W → Calls Try.prog 76 #[.pointer q, .agg #[I bn, I ba]] W (Ret (.bool true) W)) ∧
    (∀ W, Below w.heap.size w W → Calls Try.prog 145 #[.pointer q, I an] W (Ret (I (T.root i : Int)) W)) ∧ (∀ W, Below w.heap.size w W → Calls Try.prog 145 #[.pointer q, I bn] W (Ret (I (T.root i : Int)) W)) := by
  refine ⟨fun W hb => ?_, fun W hb => ?_, fun W hb => ?_, fun W hb => ?_⟩
  · have := may_any (K.on.keep hb) an aa; rwa [K.m1] at this
  · have := may_any (K.on.keep hb) bn ba; rwa [K.m2] at this
  · rw [K.ea]; exact root_any (K.on.keep hb) K.hi
  · rw [K.eb, K.hr]; exact root_any (K.on.keep hb) K.hj

set_option maxRecDepth 100000 in
set_option maxHeartbeats 2000000 in
theorem cmp_same_any {aa ba : Int} {i : Nat} {n m : Nd} (K : CmpOk q T w (i : Int) aa (i : Int) ba i i n m) :
    Calls Try.prog 67 #[.pointer q, .agg #[I (i : Int), I aa], .agg #[I (i : Int), I ba]] w (Ret (.tuple #[I (cmpI aa ba), .bool true]) w) := by
  have HB := Lib.hid (cmpW_below w i aa i ba)
  obtain ⟨c1, c2, c3, c4⟩ := K.calls
  have HM1 := Lib.hid c1
  have HM2 := Lib.hid c2
  have HR1 := Lib.hid c3
  have HC := Lib.hid (fun (W : World) => cmp_int (w := W) aa ba)
  have hd : (((T.root i : Nat) : Int) != ((T.root i : Nat) : Int)) = false := by simp
  have hd2 : ((i : Int) == (i : Int)) = true := by simp
  clear K c1 c2 c3 c4
  generalize T.root i = r1 at *
  generalize (i : Int) = nd at *
  go_enter Try.func67, Try.ntmps67
  go_wp2_with fail
  (refine wp_region_quiet_below (by kernel_rfl) (by kernel_rfl) ?_; (repeat (go_big_quiet_step (first | ((with_reducible refine quietRet ((HM1).out _ ?_)); exact Below.trans (by exact (by repeat (first | exact Below.refl _ _ | assumption | (refine Below.setCell ?_ (by first | (simp; done) | (simp; omega) | omega) _) | (refine Below.alloc ?_ (by first | (simp; done) | (simp; omega) | omega) _) | (refine Below.drew ?_) | (refine Below.drewN' ?_ _)))) ((below_regrown _ _ _).mono (by first | (simp; done) | (simp; omega) | omega))) | ((with_reducible refine quietRet ((HM2).out _ ?_)); exact Below.trans (by exact (by repeat (first | exact Below.refl _ _ | assumption | (refine Below.setCell ?_ (by first | (simp; done) | (simp; omega) | omega) _) | (refine Below.alloc ?_ (by first | (simp; done) | (simp; omega) | omega) _) | (refine Below.drew ?_) | (refine Below.drewN' ?_ _)))) ((below_regrown _ _ _).mono (by first | (simp; done) | (simp; omega) | omega))) | ((with_reducible refine quietRet ((HR1).out _ ?_)); exact Below.trans (by exact (by repeat (first | exact Below.refl _ _ | assumption | (refine Below.setCell ?_ (by first | (simp; done) | (simp; omega) | omega) _) | (refine Below.alloc ?_ (by first | (simp; done) | (simp; omega) | omega) _) | (refine Below.drew ?_) | (refine Below.drewN' ?_ _)))) ((below_regrown _ _ _).mono (by first | (simp; done) | (simp; omega) | omega)))))); refine wpQuiet_nil ?_; intro w1 hw'; have hb := below_class hw'; clear hw'; have hz_w1 := hb.size; (try simp only [World.size_alloc, World.size_setCell, World.size_drew, size_drewN'] at hz_w1); have k0_w1 : At w1 (w.heap.size) 25 #[I nd, I aa] := At.keep (by (repeat' (first | (with_reducible assumption) | (with_reducible refine unhid ?_; with_reducible assumption) | (with_reducible refine At.fresh _ _ _ (by first | (simp; done) | (simp; omega) | omega)) | (with_reducible apply At.set') | (with_reducible apply At.far) | (with_reducible apply At.alloc) | (with_reducible apply At.drew) | (with_reducible apply At.drewN) | exact (rfl : Array.setIfInBounds _ _ _ = _) | (refine Ne.symm ?_; simp; done) | (show _ ≠ _; simp; done) | (show _ ≠ _; simp; omega) | (show _ ≠ _; omega))); (first | done | fail)) hb; have k0_w1c := At.cell k0_w1; have k0_w1f := At.frozen k0_w1; have k0_w1h := Lib.hid k0_w1; clear k0_w1; have k1_w1 : At w1 (w.heap.size + 1) 25 #[I nd, I ba] := At.keep (by (repeat' (first | (with_reducible assumption) | (with_reducible refine unhid ?_; with_reducible assumption) | (with_reducible refine At.fresh _ _ _ (by first | (simp; done) | (simp; omega) | omega)) | (with_reducible apply At.set') | (with_reducible apply At.far) | (with_reducible apply At.alloc) | (with_reducible apply At.drew) | (with_reducible apply At.drewN) | exact (rfl : Array.setIfInBounds _ _ _ = _) | (refine Ne.symm ?_; simp; done) | (show _ ≠ _; simp; done) | (show _ ≠ _; simp; omega) | (show _ ≠ _; omega))); (first | done | fail)) hb; have k1_w1c := At.cell k1_w1; have k1_w1f := At.frozen k1_w1; have k1_w1h := Lib.hid k1_w1; clear k1_w1; have hb_w1 : Below w.heap.size w w1 := Below.trans (by exact (by repeat (first | exact Below.refl _ _ | assumption | (refine Below.setCell ?_ (by first | (simp; done) | (simp; omega) | omega) _) | (refine Below.alloc ?_ (by first | (simp; done) | (simp; omega) | omega) _) | (refine Below.drew ?_) | (refine Below.drewN' ?_ _)))) (hb.mono (by first | (simp; done) | (simp; omega) | omega)); obtain ⟨hc_w1, hf_w1⟩ := bcell hb_w1; clear hb)
  go_wp2_with ((with_reducible refine (HC.out _).mono ?_); rintro e w' ⟨rfl, rfl⟩)
  go_ret2
  exact ⟨rfl, (by repeat (first | exact Below.refl _ _ | assumption | (refine Below.setCell ?_ (by first | (simp; done) | (simp; omega) | omega) _) | (refine Below.alloc ?_ (by first | (simp; done) | (simp; omega) | omega) _) | (refine Below.drew ?_) | (refine Below.drewN' ?_ _)))⟩

set_option maxRecDepth 100000 in
set_option maxHeartbeats 2000000 in
/-- The second place lies within the first one's node. -/
theorem cmp_down_any {an aa bn ba : Int} {i j : Nat} {n m : Nd} (K : CmpOk q T w an aa bn ba i j n m) (hne : j ≠ i) (ha : DT.Anc T j i) :
    Calls Try.prog 67 #[.pointer q, .agg #[I an, I aa], .agg #[I bn, I ba]] w (Ret (.tuple #[I (cmpL (T.key ⟨an, aa⟩) (T.key ⟨bn, ba⟩)), .bool true]) w) := by
  have hW := K.on.wf K.hi
  obtain ⟨k, x, rest, mk, a1, a2, a3, a4, a5, a6⟩ := hW.way K.hj K.hi ha hne
  have hkey : cmpL (T.key ⟨an, aa⟩) (T.key ⟨bn, ba⟩) = if aa ≤ (x : Int) then -1 else 1 := DT.key_down (a := ⟨an, aa⟩) (b := ⟨bn, ba⟩) K.ea K.eb K.hi K.hj a6
  have HB := Lib.hid (cmpW_below w an aa bn ba)
  obtain ⟨c1, c2, c3, c4⟩ := K.calls
  have HM1 := Lib.hid c1
  have HM2 := Lib.hid c2
  have HR1 := Lib.hid c3
  have HR2 := Lib.hid c4
  have hw : T.isWithin bn an = true := by rw [K.eb, K.ea, DT.isWithin_nat K.hj, hW.within_anc K.hj]; exact ha
  have HWi : Hid (∀ W, Below w.heap.size w W → Calls Try.prog 78 #[.pointer q, I bn, I an] W (Ret (.bool true) W)) := fun W hb => by have := within09_any (K.on.keep hb) bn an; rwa [hw] at this
  have HKi : Hid (∀ W, Below w.heap.size w W → Calls Try.prog 147 #[.pointer q, I bn, I an] W (Ret (I (k : Int)) W)) := fun W hb => by rw [K.eb, K.ea]; exact kid_any (K.on.keep hb) K.hj a2 a3 a5
  have HIx : Hid (∀ W, Below w.heap.size w W → Calls Try.prog 50 #[.pointer q, I (k : Int)] W (Ret (I (x : Int)) W)) := fun W hb => ret_same (by have := K.on.index W hb (k : Int); rwa [DT.indexOf_kid a2 a3 K.hi a1, a4] at this)
  have hd : (((T.root i : Nat) : Int) != ((T.root i : Nat) : Int)) = false := by simp
  have hd2 : (an == bn) = false := by rw [K.ea, K.eb]; simp; omega
  rw [hkey]
  clear K c1 c2 c3 c4 hkey hw a1 a2 a3 a4 a5 a6 ha hne hW
  generalize T.root i = r1 at *
  by_cases hax : aa ≤ (x : Int)
  all_goals
    first | rw [if_pos hax] | rw [if_neg hax]
    first | (have hd3 : decide (aa ≤ (x : Int)) = true := by simp [hax]) | (have hd3 : decide (aa ≤ (x : Int)) = false := by simp; omega)
    clear hax
    go_enter Try.func67, Try.ntmps67
    go_wp2_with fail
    (refine wp_region_quiet_below (by kernel_rfl) (by kernel_rfl) ?_; (repeat (go_big_quiet_step (first | ((with_reducible refine quietRet ((HM1).out _ ?_)); exact Below.trans (by exact (by repeat (first | exact Below.refl _ _ | assumption | (refine Below.setCell ?_ (by first | (simp; done) | (simp; omega) | omega) _) | (refine Below.alloc ?_ (by first | (simp; done) | (simp; omega) | omega) _) | (refine Below.drew ?_) | (refine Below.drewN' ?_ _)))) ((below_regrown _ _ _).mono (by first | (simp; done) | (simp; omega) | omega))) | ((with_reducible refine quietRet ((HM2).out _ ?_)); exact Below.trans (by exact (by repeat (first | exact Below.refl _ _ | assumption | (refine Below.setCell ?_ (by first | (simp; done) | (simp; omega) | omega) _) | (refine Below.alloc ?_ (by first | (simp; done) | (simp; omega) | omega) _) | (refine Below.drew ?_) | (refine Below.drewN' ?_ _)))) ((below_regrown _ _ _).mono (by first | (simp; done) | (simp; omega) | omega))) | ((with_reducible refine quietRet ((HR1).out _ ?_)); exact Below.trans (by exact (by repeat (first | exact Below.refl _ _ | assumption | (refine Below.setCell ?_ (by first | (simp; done) | (simp; omega) | omega) _) | (refine Below.alloc ?_ (by first | (simp; done) | (simp; omega) | omega) _) | (refine Below.drew ?_) | (refine Below.drewN' ?_ _)))) ((below_regrown _ _ _).mono (by first | (simp; done) | (simp; omega) | omega))) | ((with_reducible refine quietRet ((HR2).out _ ?_)); exact Below.trans (by exact (by repeat (first | exact Below.refl _ _ | assumption | (refine Below.setCell ?_ (by first | (simp; done) | (simp; omega) | omega) _) | (refine Below.alloc ?_ (by first | (simp; done) | (simp; omega) | omega) _) | (refine Below.drew ?_) | (refine Below.drewN' ?_ _)))) ((below_regrown _ _ _).mono (by first | (simp; done) | (simp; omega) | omega)))))); refine wpQuiet_nil ?_; intro w1 hw'; have hb := below_class hw'; clear hw'; have hz_w1 := hb.size; (try simp only [World.size_alloc, World.size_setCell, World.size_drew, size_drewN'] at hz_w1); have k0_w1 : At w1 (w.heap.size) 25 #[I an, I aa] := At.keep (by (repeat' (first | (with_reducible assumption) | (with_reducible refine unhid ?_; with_reducible assumption) | (with_reducible refine At.fresh _ _ _ (by first | (simp; done) | (simp; omega) | omega)) | (with_reducible apply At.set') | (with_reducible apply At.far) | (with_reducible apply At.alloc) | (with_reducible apply At.drew) | (with_reducible apply At.drewN) | exact (rfl : Array.setIfInBounds _ _ _ = _) | (refine Ne.symm ?_; simp; done) | (show _ ≠ _; simp; done) | (show _ ≠ _; simp; omega) | (show _ ≠ _; omega))); (first | done | fail)) hb; have k0_w1c := At.cell k0_w1; have k0_w1f := At.frozen k0_w1; have k0_w1h := Lib.hid k0_w1; clear k0_w1; have k1_w1 : At w1 (w.heap.size + 1) 25 #[I bn, I ba] := At.keep (by (repeat' (first | (with_reducible assumption) | (with_reducible refine unhid ?_; with_reducible assumption) | (with_reducible refine At.fresh _ _ _ (by first | (simp; done) | (simp; omega) | omega)) | (with_reducible apply At.set') | (with_reducible apply At.far) | (with_reducible apply At.alloc) | (with_reducible apply At.drew) | (with_reducible apply At.drewN) | exact (rfl : Array.setIfInBounds _ _ _ = _) | (refine Ne.symm ?_; simp; done) | (show _ ≠ _; simp; done) | (show _ ≠ _; simp; omega) | (show _ ≠ _; omega))); (first | done | fail)) hb; have k1_w1c := At.cell k1_w1; have k1_w1f := At.frozen k1_w1; have k1_w1h := Lib.hid k1_w1; clear k1_w1; have hb_w1 : Below w.heap.size w w1 := Below.trans (by exact (by repeat (first | exact Below.refl _ _ | assumption | (refine Below.setCell ?_ (by first | (simp; done) | (simp; omega) | omega) _) | (refine Below.alloc ?_ (by first | (simp; done) | (simp; omega) | omega) _) | (refine Below.drew ?_) | (refine Below.drewN' ?_ _)))) (hb.mono (by first | (simp; done) | (simp; omega) | omega)); obtain ⟨hc_w1, hf_w1⟩ := bcell hb_w1; clear hb)
    go_wp2_with ((with_reducible refine (HWi.out _ (by repeat (first | exact Below.refl _ _ | assumption | (refine Below.setCell ?_ (by first | (simp; done) | (simp; omega) | omega) _) | (refine Below.alloc ?_ (by first | (simp; done) | (simp; omega) | omega) _) | (refine Below.drew ?_) | (refine Below.drewN' ?_ _)))).mono ?_); rintro e w2 ⟨rfl, hb⟩; have hz_w2 := hb.size; (try simp only [World.size_alloc, World.size_setCell, World.size_drew, size_drewN'] at hz_w2); have k0_w2 : At w2 (w.heap.size) 25 #[I an, I aa] := At.keep (by (repeat' (first | (with_reducible assumption) | (with_reducible refine unhid ?_; with_reducible assumption) | (with_reducible refine At.fresh _ _ _ (by first | (simp; done) | (simp; omega) | omega)) | (with_reducible apply At.set') | (with_reducible apply At.far) | (with_reducible apply At.alloc) | (with_reducible apply At.drew) | (with_reducible apply At.drewN) | exact (rfl : Array.setIfInBounds _ _ _ = _) | (refine Ne.symm ?_; simp; done) | (show _ ≠ _; simp; done) | (show _ ≠ _; simp; omega) | (show _ ≠ _; omega))); (first | done | fail)) hb; have k0_w2c := At.cell k0_w2; have k0_w2f := At.frozen k0_w2; have k0_w2h := Lib.hid k0_w2; clear k0_w2; have k1_w2 : At w2 (w.heap.size + 1) 25 #[I bn, I ba] := At.keep (by (repeat' (first | (with_reducible assumption) | (with_reducible refine unhid ?_; with_reducible assumption) | (with_reducible refine At.fresh _ _ _ (by first | (simp; done) | (simp; omega) | omega)) | (with_reducible apply At.set') | (with_reducible apply At.far) | (with_reducible apply At.alloc) | (with_reducible apply At.drew) | (with_reducible apply At.drewN) | exact (rfl : Array.setIfInBounds _ _ _ = _) | (refine Ne.symm ?_; simp; done) | (show _ ≠ _; simp; done) | (show _ ≠ _; simp; omega) | (show _ ≠ _; omega))); (first | done | fail)) hb; have k1_w2c := At.cell k1_w2; have k1_w2f := At.frozen k1_w2; have k1_w2h := Lib.hid k1_w2; clear k1_w2; have hb_w2 : Below w.heap.size w w2 := Below.trans (by exact (by repeat (first | exact Below.refl _ _ | assumption | (refine Below.setCell ?_ (by first | (simp; done) | (simp; omega) | omega) _) | (refine Below.alloc ?_ (by first | (simp; done) | (simp; omega) | omega) _) | (refine Below.drew ?_) | (refine Below.drewN' ?_ _)))) (hb.mono (by first | (simp; done) | (simp; omega) | omega)); obtain ⟨hc_w2, hf_w2⟩ := bcell hb_w2; clear hb)
    (refine wp_region_quiet_below (by kernel_rfl) (by kernel_rfl) ?_; (repeat (go_big_quiet_step (first | ((with_reducible refine quietRet ((HKi).out _ ?_)); exact Below.trans (by exact (by repeat (first | exact Below.refl _ _ | assumption | (refine Below.setCell ?_ (by first | (simp; done) | (simp; omega) | omega) _) | (refine Below.alloc ?_ (by first | (simp; done) | (simp; omega) | omega) _) | (refine Below.drew ?_) | (refine Below.drewN' ?_ _)))) ((below_regrown _ _ _).mono (by first | (simp; done) | (simp; omega) | omega))) | ((with_reducible refine quietRet ((HIx).out _ ?_)); exact Below.trans (by exact (by repeat (first | exact Below.refl _ _ | assumption | (refine Below.setCell ?_ (by first | (simp; done) | (simp; omega) | omega) _) | (refine Below.alloc ?_ (by first | (simp; done) | (simp; omega) | omega) _) | (refine Below.drew ?_) | (refine Below.drewN' ?_ _)))) ((below_regrown _ _ _).mono (by first | (simp; done) | (simp; omega) | omega)))))); refine wpQuiet_nil ?_; intro w3 hw'; have hb := below_class hw'; clear hw'; have hz_w3 := hb.size; (try simp only [World.size_alloc, World.size_setCell, World.size_drew, size_drewN'] at hz_w3); have hb_w3 : Below w.heap.size w w3 := Below.trans (by exact (by repeat (first | exact Below.refl _ _ | assumption | (refine Below.setCell ?_ (by first | (simp; done) | (simp; omega) | omega) _) | (refine Below.alloc ?_ (by first | (simp; done) | (simp; omega) | omega) _) | (refine Below.drew ?_) | (refine Below.drewN' ?_ _)))) (hb.mono (by first | (simp; done) | (simp; omega) | omega)); obtain ⟨hc_w3, hf_w3⟩ := bcell hb_w3; clear hb)
    go_wp2_with fail
    go_ret2
    exact ⟨rfl, (by repeat (first | exact Below.refl _ _ | assumption | (refine Below.setCell ?_ (by first | (simp; done) | (simp; omega) | omega) _) | (refine Below.alloc ?_ (by first | (simp; done) | (simp; omega) | omega) _) | (refine Below.drew ?_) | (refine Below.drewN' ?_ _)))⟩
end
end Go.Proofs.Ytnnjlpkjpbbklaa

-- OrdW7: Package order walked: Cmp, whole. Conditions: a tree that is told of.
namespace Go.Proofs.Ytnnjlpkjpbbklaa
open Go.RowKit

theorem place_cells {w : World} {P Q : Nat} {t : TypeId} {x y z u : Value} (h1 : At w P t #[x, y]) (h2 : At w Q t #[z, u]) : w.cell? ⟨P, 0, none⟩ = some x ∧ w.cell? ⟨Q, 0, none⟩ = some z := ⟨h1.cell 0, h2.cell 0⟩

section
variable {q : Option Addr} {T : DT} {w : World}
set_option maxRecDepth 100000 in
set_option maxHeartbeats 2000000 in
/-- Neither lies within the other's node. -/
theorem cmp_apart_any {an aa bn ba : Int} {i j : Nat} {n m : Nd} (K : CmpOk q T w an aa bn ba i j n m) (h1 : ¬ DT.Anc T j i) (h2 : ¬ DT.Anc T i j) :
    Calls Try.prog 67 #[.pointer q, .agg #[I an, I aa], .agg #[I bn, I ba]] w (Ret (.tuple #[I (cmpL (T.key ⟨an, aa⟩) (T.key ⟨bn, ba⟩)), .bool true]) w) := by
  have hW := K.on.wf K.hi
  have hkey : cmpL (T.key ⟨an, aa⟩) (T.key ⟨bn, ba⟩) = cmpL (DT.ofNats (T.path_ i)) (DT.ofNats (T.path_ j)) := DT.key_apart (a := ⟨an, aa⟩) (b := ⟨bn, ba⟩) K.ea K.eb K.hi K.hj (fun e => h1 ((hW.path_anc K.hj K.hi K.hr.symm).1 e)) (fun e => h2 ((hW.path_anc K.hi K.hj K.hr).1 e))
  obtain ⟨c1, c2, c3, c4⟩ := K.calls
  have HM1 := Lib.hid c1
  have HM2 := Lib.hid c2
  have HR1 := Lib.hid c3
  have HR2 := Lib.hid c4
  have hw1 : T.isWithin bn an = false := by rw [K.eb, K.ea, DT.isWithin_nat K.hj]; exact (hW.within_not K.hj i).2 h1
  have hw2 : T.isWithin an bn = false := by rw [K.eb, K.ea, DT.isWithin_nat K.hi]; exact (hW.within_not K.hi j).2 h2
  have HWi : Hid (∀ W, Below w.heap.size w W → Calls Try.prog 78 #[.pointer q, I bn, I an] W (Ret (.bool false) W)) := fun W hb => by have := within09_any (K.on.keep hb) bn an; rwa [hw1] at this
  have HWj : Hid (∀ W, Below w.heap.size w W → Calls Try.prog 78 #[.pointer q, I an, I bn] W (Ret (.bool false) W)) := fun W hb => by have := within09_any (K.on.keep hb) an bn; rwa [hw2] at this
  have HP1 : Hid (∀ W, Below w.heap.size w W → Calls Try.prog 79 #[.pointer q, I an] W (RetRow 3 1 (T.path_ i).length (kidCells (T.path_ i)) W)) := fun W hb => by have := path_any (K.on.keep hb) an; rwa [K.ea, DT.path_nat K.hi, ← K.ea] at this
  have HP2 : Hid (∀ W, Below w.heap.size w W → Calls Try.prog 79 #[.pointer q, I bn] W (RetRow 3 1 (T.path_ j).length (kidCells (T.path_ j)) W)) := fun W hb => by have := path_any (K.on.keep hb) bn; rwa [K.eb, DT.path_nat K.hj, ← K.eb] at this
  have l1 : (T.path_ i).length ≤ 40 := by rw [hW.path_len K.hi]; exact hW.depth_le K.hi
  have l2 : (T.path_ j).length ≤ 40 := by rw [hW.path_len K.hj]; exact hW.depth_le K.hj
  have HCo : Hid (∀ (W : World) (A1 A2 : Option Addr) (k1 k2 c1 c2 : Nat) (base1 base2 : Nat) (W1 W2 : World), W1.ownsRow base1 3 1 (.slice A1 k1 c1) (T.path_ i).length (kidCells (T.path_ i)) → W2.ownsRow base2 3 1 (.slice A2 k2 c2) (T.path_ j).length (kidCells (T.path_ j)) → Below W1.heap.size W1 W → Below W2.heap.size W2 W →
      Calls Try.prog 148 #[.slice A1 k1 c1, .slice A2 k2 c2] W fun e w' => e = .returned (I (cmpL (DT.ofNats (T.path_ i)) (DT.ofNats (T.path_ j)))) ∧ W = w') := fun W A1 A2 k1 k2 c1 c2 b1 b2 W1 W2 o1 o2 hb1 hb2 =>
    compare_any ((LI.of_kids o1).below hb1) ((LI.of_kids o2).below hb2) (by rw [ofNats_length]; omega) (by rw [ofNats_length]; omega)
  have hd : (((T.root i : Nat) : Int) != ((T.root i : Nat) : Int)) = false := by simp
  have hne : j ≠ i := fun e => h1 (e ▸ .refl _)
  have hd2 : (an == bn) = false := by rw [K.ea, K.eb]; simp; omega
  rw [hkey]
  clear K c1 c2 c3 c4 hkey hw1 hw2 h1 h2 hne hW
  generalize T.root i = r1 at *
  generalize T.path_ i = pi at *
  generalize T.path_ j = pj at *
  generalize cmpL (DT.ofNats pi) (DT.ofNats pj) = R at *
  generalize hk1 : pi.length = n1 at *
  generalize hk2 : pj.length = n2 at *
  have HK12 := Lib.hid (And.intro hk1 hk2)
  clear hk1 hk2
  go_enter Try.func67, Try.ntmps67
  go_wp2_with fail
  (refine wp_region_quiet_below (by kernel_rfl) (by kernel_rfl) ?_; (repeat (go_big_quiet_step (first | ((with_reducible refine quietRet ((HM1).out _ ?_)); exact Below.trans (by exact (by repeat (first | exact Below.refl _ _ | assumption | (refine Below.setCell ?_ (by first | (simp; done) | (simp; omega) | omega) _) | (refine Below.alloc ?_ (by first | (simp; done) | (simp; omega) | omega) _) | (refine Below.drew ?_) | (refine Below.drewN' ?_ _)))) ((below_regrown _ _ _).mono (by first | (simp; done) | (simp; omega) | omega))) | ((with_reducible refine quietRet ((HM2).out _ ?_)); exact Below.trans (by exact (by repeat (first | exact Below.refl _ _ | assumption | (refine Below.setCell ?_ (by first | (simp; done) | (simp; omega) | omega) _) | (refine Below.alloc ?_ (by first | (simp; done) | (simp; omega) | omega) _) | (refine Below.drew ?_) | (refine Below.drewN' ?_ _)))) ((below_regrown _ _ _).mono (by first | (simp; done) | (simp; omega) | omega))) | ((with_reducible refine quietRet ((HR1).out _ ?_)); exact Below.trans (by exact (by repeat (first | exact Below.refl _ _ | assumption | (refine Below.setCell ?_ (by first | (simp; done) | (simp; omega) | omega) _) | (refine Below.alloc ?_ (by first | (simp; done) | (simp; omega) | omega) _) | (refine Below.drew ?_) | (refine Below.drewN' ?_ _)))) ((below_regrown _ _ _).mono (by first | (simp; done) | (simp; omega) | omega))) | ((with_reducible refine quietRet ((HR2).out _ ?_)); exact Below.trans (by exact (by repeat (first | exact Below.refl _ _ | assumption | (refine Below.setCell ?_ (by first | (simp; done) | (simp; omega) | omega) _) | (refine Below.alloc ?_ (by first | (simp; done) | (simp; omega) | omega) _) | (refine Below.drew ?_) | (refine Below.drewN' ?_ _)))) ((below_regrown _ _ _).mono (by first | (simp; done) | (simp; omega) | omega)))))); refine wpQuiet_nil ?_; intro w1 hw'; have hb := below_class hw'; clear hw'; have hz_w1 := hb.size; (try simp only [World.size_alloc, World.size_setCell, World.size_drew, size_drewN'] at hz_w1); have k0_w1 : At w1 (w.heap.size) 25 #[I an, I aa] := At.keep (by (repeat' (first | (with_reducible assumption) | (with_reducible refine unhid ?_; with_reducible assumption) | (with_reducible refine At.fresh _ _ _ (by first | (simp; done) | (simp; omega) | omega)) | (with_reducible apply At.set') | (with_reducible apply At.far) | (with_reducible apply At.alloc) | (with_reducible apply At.drew) | (with_reducible apply At.drewN) | exact (rfl : Array.setIfInBounds _ _ _ = _) | (refine Ne.symm ?_; simp; done) | (show _ ≠ _; simp; done) | (show _ ≠ _; simp; omega) | (show _ ≠ _; omega))); (first | done | fail)) hb; have k0_w1c := At.cell k0_w1; have k0_w1f := At.frozen k0_w1; have k0_w1h := Lib.hid k0_w1; clear k0_w1; have k1_w1 : At w1 (w.heap.size + 1) 25 #[I bn, I ba] := At.keep (by (repeat' (first | (with_reducible assumption) | (with_reducible refine unhid ?_; with_reducible assumption) | (with_reducible refine At.fresh _ _ _ (by first | (simp; done) | (simp; omega) | omega)) | (with_reducible apply At.set') | (with_reducible apply At.far) | (with_reducible apply At.alloc) | (with_reducible apply At.drew) | (with_reducible apply At.drewN) | exact (rfl : Array.setIfInBounds _ _ _ = _) | (refine Ne.symm ?_; simp; done) | (show _ ≠ _; simp; done) | (show _ ≠ _; simp; omega) | (show _ ≠ _; omega))); (first | done | fail)) hb; have k1_w1c := At.cell k1_w1; have k1_w1f := At.frozen k1_w1; have k1_w1h := Lib.hid k1_w1; clear k1_w1; have hb_w1 : Below w.heap.size w w1 := Below.trans (by exact (by repeat (first | exact Below.refl _ _ | assumption | (refine Below.setCell ?_ (by first | (simp; done) | (simp; omega) | omega) _) | (refine Below.alloc ?_ (by first | (simp; done) | (simp; omega) | omega) _) | (refine Below.drew ?_) | (refine Below.drewN' ?_ _)))) (hb.mono (by first | (simp; done) | (simp; omega) | omega)); obtain ⟨hc_w1, hf_w1⟩ := bcell hb_w1; clear hb)
  go_wp2_with (first | ((with_reducible refine (HWi.out _ (by repeat (first | exact Below.refl _ _ | assumption | (refine Below.setCell ?_ (by first | (simp; done) | (simp; omega) | omega) _) | (refine Below.alloc ?_ (by first | (simp; done) | (simp; omega) | omega) _) | (refine Below.drew ?_) | (refine Below.drewN' ?_ _)))).mono ?_); rintro e w2 ⟨rfl, hb⟩; have hz_w2 := hb.size; (try simp only [World.size_alloc, World.size_setCell, World.size_drew, size_drewN'] at hz_w2); have k0_w2 : At w2 (w.heap.size) 25 #[I an, I aa] := At.keep (by (repeat' (first | (with_reducible assumption) | (with_reducible refine unhid ?_; with_reducible assumption) | (with_reducible refine At.fresh _ _ _ (by first | (simp; done) | (simp; omega) | omega)) | (with_reducible apply At.set') | (with_reducible apply At.far) | (with_reducible apply At.alloc) | (with_reducible apply At.drew) | (with_reducible apply At.drewN) | exact (rfl : Array.setIfInBounds _ _ _ = _) | (refine Ne.symm ?_; simp; done) | (show _ ≠ _; simp; done) | (show _ ≠ _; simp; omega) | (show _ ≠ _; omega))); (first | done | fail)) hb; have k0_w2c := At.cell k0_w2; have k0_w2f := At.frozen k0_w2; have k0_w2h := Lib.hid k0_w2; clear k0_w2; have k1_w2 : At w2 (w.heap.size + 1) 25 #[I bn, I ba] := At.keep (by (repeat' (first | (with_reducible assumption) | (with_reducible refine unhid ?_; with_reducible assumption) | (with_reducible refine At.fresh _ _ _ (by first | (simp; done) | (simp; omega) | omega)) | (with_reducible apply At.set') | (with_reducible apply At.far) | (with_reducible apply At.alloc) | (with_reducible apply At.drew) | (with_reducible apply At.drewN) | exact (rfl : Array.setIfInBounds _ _ _ = _) | (refine Ne.symm ?_; simp; done) | (show _ ≠ _; simp; done) | (show _ ≠ _; simp; omega) | (show _ ≠ _; omega))); (first | done | fail)) hb; have k1_w2c := At.cell k1_w2; have k1_w2f := At.frozen k1_w2; have k1_w2h := Lib.hid k1_w2; clear k1_w2; have hb_w2 : Below w.heap.size w w2 := Below.trans (by exact (by repeat (first | exact Below.refl _ _ | assumption | (refine Below.setCell ?_ (by first | (simp; done) | (simp; omega) | omega) _) | (refine Below.alloc ?_ (by first | (simp; done) | (simp; omega) | omega) _) | (refine Below.drew ?_) | (refine Below.drewN' ?_ _)))) (hb.mono (by first | (simp; done) | (simp; omega) | omega)); obtain ⟨hc_w2, hf_w2⟩ := bcell hb_w2; clear hb) | ((with_reducible refine (HWj.out _ (by repeat (first | exact Below.refl _ _ | assumption | (refine Below.setCell ?_ (by first | (simp; done) | (simp; omega) | omega) _) | (refine Below.alloc ?_ (by first | (simp; done) | (simp; omega) | omega) _) | (refine Below.drew ?_) | (refine Below.drewN' ?_ _)))).mono ?_); rintro e w3 ⟨rfl, hb⟩; have hz_w3 := hb.size; (try simp only [World.size_alloc, World.size_setCell, World.size_drew, size_drewN'] at hz_w3); have k0_w3 : At w3 (w.heap.size) 25 #[I an, I aa] := At.keep (by (repeat' (first | (with_reducible assumption) | (with_reducible refine unhid ?_; with_reducible assumption) | (with_reducible refine At.fresh _ _ _ (by first | (simp; done) | (simp; omega) | omega)) | (with_reducible apply At.set') | (with_reducible apply At.far) | (with_reducible apply At.alloc) | (with_reducible apply At.drew) | (with_reducible apply At.drewN) | exact (rfl : Array.setIfInBounds _ _ _ = _) | (refine Ne.symm ?_; simp; done) | (show _ ≠ _; simp; done) | (show _ ≠ _; simp; omega) | (show _ ≠ _; omega))); (first | done | fail)) hb; have k0_w3c := At.cell k0_w3; have k0_w3f := At.frozen k0_w3; have k0_w3h := Lib.hid k0_w3; clear k0_w3; have k1_w3 : At w3 (w.heap.size + 1) 25 #[I bn, I ba] := At.keep (by (repeat' (first | (with_reducible assumption) | (with_reducible refine unhid ?_; with_reducible assumption) | (with_reducible refine At.fresh _ _ _ (by first | (simp; done) | (simp; omega) | omega)) | (with_reducible apply At.set') | (with_reducible apply At.far) | (with_reducible apply At.alloc) | (with_reducible apply At.drew) | (with_reducible apply At.drewN) | exact (rfl : Array.setIfInBounds _ _ _ = _) | (refine Ne.symm ?_; simp; done) | (show _ ≠ _; simp; done) | (show _ ≠ _; simp; omega) | (show _ ≠ _; omega))); (first | done | fail)) hb; have k1_w3c := At.cell k1_w3; have k1_w3f := At.frozen k1_w3; have k1_w3h := Lib.hid k1_w3; clear k1_w3; have hb_w3 : Below w.heap.size w w3 := Below.trans (by exact (by repeat (first | exact Below.refl _ _ | assumption | (refine Below.setCell ?_ (by first | (simp; done) | (simp; omega) | omega) _) | (refine Below.alloc ?_ (by first | (simp; done) | (simp; omega) | omega) _) | (refine Below.drew ?_) | (refine Below.drewN' ?_ _)))) (hb.mono (by first | (simp; done) | (simp; omega) | omega)); obtain ⟨hc_w3, hf_w3⟩ := bcell hb_w3; clear hb))
  go_region_held3 (fun w' => w'.cell? ⟨w.heap.size, 0, none⟩ = some (I an) ∧ w'.cell? ⟨w.heap.size + 1, 0, none⟩ = some (I bn)) (exact place_cells (t := 25) (by (repeat' (first | (with_reducible assumption) | (with_reducible refine unhid ?_; with_reducible assumption) | (with_reducible refine At.fresh _ _ _ (by first | (simp; done) | (simp; omega) | omega)) | (with_reducible apply At.set') | (with_reducible apply At.far) | (with_reducible apply At.alloc) | (with_reducible apply At.drew) | (with_reducible apply At.drewN) | exact (rfl : Array.setIfInBounds _ _ _ = _) | (refine Ne.symm ?_; simp; done) | (show _ ≠ _; simp; done) | (show _ ≠ _; simp; omega) | (show _ ≠ _; omega))); (first | done | fail)) (by (repeat' (first | (with_reducible assumption) | (with_reducible refine unhid ?_; with_reducible assumption) | (with_reducible refine At.fresh _ _ _ (by first | (simp; done) | (simp; omega) | omega)) | (with_reducible apply At.set') | (with_reducible apply At.far) | (with_reducible apply At.alloc) | (with_reducible apply At.drew) | (with_reducible apply At.drewN) | exact (rfl : Array.setIfInBounds _ _ _ = _) | (refine Ne.symm ?_; simp; done) | (show _ ≠ _; simp; done) | (show _ ≠ _; simp; omega) | (show _ ≠ _; omega))); (first | done | fail))) (first
    | ((with_reducible refine (HP1.out _ (by repeat (first | exact Below.refl _ _ | assumption | (refine Below.setCell ?_ (by first | (simp; done) | (simp; omega) | omega) _) | (refine Below.alloc ?_ (by first | (simp; done) | (simp; omega) | omega) _) | (refine Below.drew ?_) | (refine Below.drewN' ?_ _)))).mono ?_); rintro e w4 ⟨v_w4, rfl, hown, hb⟩; obtain ⟨A_w4, c_w4, rfl⟩ := own_form hown; have HO_w4 := Lib.hid hown; clear hown; have HBb_w4 := Lib.hid hb; have hz_w4 := hb.size; (try simp only [World.size_alloc, World.size_setCell, World.size_drew, size_drewN'] at hz_w4); have k0_w4 : At w4 (w.heap.size) 25 #[I an, I aa] := At.keep (by (repeat' (first | (with_reducible assumption) | (with_reducible refine unhid ?_; with_reducible assumption) | (with_reducible refine At.fresh _ _ _ (by first | (simp; done) | (simp; omega) | omega)) | (with_reducible apply At.set') | (with_reducible apply At.far) | (with_reducible apply At.alloc) | (with_reducible apply At.drew) | (with_reducible apply At.drewN) | exact (rfl : Array.setIfInBounds _ _ _ = _) | (refine Ne.symm ?_; simp; done) | (show _ ≠ _; simp; done) | (show _ ≠ _; simp; omega) | (show _ ≠ _; omega))); (first | done | fail)) hb; have k0_w4c := At.cell k0_w4; have k0_w4f := At.frozen k0_w4; have k0_w4h := Lib.hid k0_w4; clear k0_w4; have k1_w4 : At w4 (w.heap.size + 1) 25 #[I bn, I ba] := At.keep (by (repeat' (first | (with_reducible assumption) | (with_reducible refine unhid ?_; with_reducible assumption) | (with_reducible refine At.fresh _ _ _ (by first | (simp; done) | (simp; omega) | omega)) | (with_reducible apply At.set') | (with_reducible apply At.far) | (with_reducible apply At.alloc) | (with_reducible apply At.drew) | (with_reducible apply At.drewN) | exact (rfl : Array.setIfInBounds _ _ _ = _) | (refine Ne.symm ?_; simp; done) | (show _ ≠ _; simp; done) | (show _ ≠ _; simp; omega) | (show _ ≠ _; omega))); (first | done | fail)) hb; have k1_w4c := At.cell k1_w4; have k1_w4f := At.frozen k1_w4; have k1_w4h := Lib.hid k1_w4; clear k1_w4; have hb_w4 : Below w.heap.size w w4 := Below.trans (by exact (by repeat (first | exact Below.refl _ _ | assumption | (refine Below.setCell ?_ (by first | (simp; done) | (simp; omega) | omega) _) | (refine Below.alloc ?_ (by first | (simp; done) | (simp; omega) | omega) _) | (refine Below.drew ?_) | (refine Below.drewN' ?_ _)))) (hb.mono (by first | (simp; done) | (simp; omega) | omega)); obtain ⟨hc_w4, hf_w4⟩ := bcell hb_w4; clear hb)
    | ((with_reducible refine (HP2.out _ (by repeat (first | exact Below.refl _ _ | assumption | (refine Below.setCell ?_ (by first | (simp; done) | (simp; omega) | omega) _) | (refine Below.alloc ?_ (by first | (simp; done) | (simp; omega) | omega) _) | (refine Below.drew ?_) | (refine Below.drewN' ?_ _)))).mono ?_); rintro e w5 ⟨v_w5, rfl, hown, hb⟩; obtain ⟨A_w5, c_w5, rfl⟩ := own_form hown; have HO_w5 := Lib.hid hown; clear hown; have HBb_w5 := Lib.hid hb; have hz_w5 := hb.size; (try simp only [World.size_alloc, World.size_setCell, World.size_drew, size_drewN'] at hz_w5); have k0_w5 : At w5 (w.heap.size) 25 #[I an, I aa] := At.keep (by (repeat' (first | (with_reducible assumption) | (with_reducible refine unhid ?_; with_reducible assumption) | (with_reducible refine At.fresh _ _ _ (by first | (simp; done) | (simp; omega) | omega)) | (with_reducible apply At.set') | (with_reducible apply At.far) | (with_reducible apply At.alloc) | (with_reducible apply At.drew) | (with_reducible apply At.drewN) | exact (rfl : Array.setIfInBounds _ _ _ = _) | (refine Ne.symm ?_; simp; done) | (show _ ≠ _; simp; done) | (show _ ≠ _; simp; omega) | (show _ ≠ _; omega))); (first | done | fail)) hb; have k0_w5c := At.cell k0_w5; have k0_w5f := At.frozen k0_w5; have k0_w5h := Lib.hid k0_w5; clear k0_w5; have k1_w5 : At w5 (w.heap.size + 1) 25 #[I bn, I ba] := At.keep (by (repeat' (first | (with_reducible assumption) | (with_reducible refine unhid ?_; with_reducible assumption) | (with_reducible refine At.fresh _ _ _ (by first | (simp; done) | (simp; omega) | omega)) | (with_reducible apply At.set') | (with_reducible apply At.far) | (with_reducible apply At.alloc) | (with_reducible apply At.drew) | (with_reducible apply At.drewN) | exact (rfl : Array.setIfInBounds _ _ _ = _) | (refine Ne.symm ?_; simp; done) | (show _ ≠ _; simp; done) | (show _ ≠ _; simp; omega) | (show _ ≠ _; omega))); (first | done | fail)) hb; have k1_w5c := At.cell k1_w5; have k1_w5f := At.frozen k1_w5; have k1_w5h := Lib.hid k1_w5; clear k1_w5; have hb_w5 : Below w.heap.size w w5 := Below.trans (by exact (by repeat (first | exact Below.refl _ _ | assumption | (refine Below.setCell ?_ (by first | (simp; done) | (simp; omega) | omega) _) | (refine Below.alloc ?_ (by first | (simp; done) | (simp; omega) | omega) _) | (refine Below.drew ?_) | (refine Below.drewN' ?_ _)))) (hb.mono (by first | (simp; done) | (simp; omega) | omega)); obtain ⟨hc_w5, hf_w5⟩ := bcell hb_w5; clear hb)
    | ((with_reducible refine (HCo.out _ _ _ _ _ _ _ _ _ _ _ HO_w4.out HO_w5.out HBb_w5.out (Below.refl _ _)).mono ?_); rintro e w' ⟨rfl, rfl⟩))
  go_wp2_with fail
  go_ret2
  exact ⟨rfl, (by repeat (first | exact Below.refl _ _ | assumption | (refine Below.setCell ?_ (by first | (simp; done) | (simp; omega) | omega) _) | (refine Below.alloc ?_ (by first | (simp; done) | (simp; omega) | omega) _) | (refine Below.drew ?_) | (refine Below.drewN' ?_ _)))⟩

theorem cmpI_keys (a b : Pl) (e : a.node = b.node) : cmpL (T.key a) (T.key b) = cmpI a.at_ b.at_ := by
  have : cmpL (T.key a) (T.key b) = if a.at_ < b.at_ then -1 else if b.at_ < a.at_ then 1 else 0 := by
    unfold DT.key
    rw [e, cmpL_app]
    unfold cmpL
    by_cases h1 : a.at_ < b.at_
    · rw [if_pos h1, if_pos (by omega)]
    · rw [if_neg h1, if_neg (by omega)]
      by_cases h2 : b.at_ < a.at_
      · rw [if_pos h2, if_pos (by omega)]
      · rw [if_neg h2, if_neg (by omega)]; rfl
  rw [this]; rfl

set_option maxRecDepth 100000 in
set_option maxHeartbeats 2000000 in
/-- The first place lies within the second one's node: the call calls itself, the other way round. -/
theorem cmp_up_any {an aa bn ba : Int} {i j : Nat} {n m : Nd} (K : CmpOk q T w an aa bn ba i j n m) (hne : i ≠ j) (ha : DT.Anc T i j) :
    Calls Try.prog 67 #[.pointer q, .agg #[I an, I aa], .agg #[I bn, I ba]] w (Ret (.tuple #[I (cmpL (T.key ⟨an, aa⟩) (T.key ⟨bn, ba⟩)), .bool true]) w) := by
  have hW := K.on.wf K.hi
  have hanti := cmpL_anti (T.key ⟨an, aa⟩) (T.key ⟨bn, ba⟩)
  have hbd := cmpL_bd (T.key ⟨bn, ba⟩) (T.key ⟨an, aa⟩)
  obtain ⟨c1, c2, c3, c4⟩ := K.calls
  have HM1 := Lib.hid c1
  have HM2 := Lib.hid c2
  have HR1 := Lib.hid c3
  have HR2 := Lib.hid c4
  have hnot : ¬ DT.Anc T j i := fun e => hne (hW.anc_anti K.hi ha e)
  have hw1 : T.isWithin bn an = false := by rw [K.eb, K.ea, DT.isWithin_nat K.hj]; exact (hW.within_not K.hj i).2 hnot
  have hw2 : T.isWithin an bn = true := by rw [K.eb, K.ea, DT.isWithin_nat K.hi, hW.within_anc K.hi]; exact ha
  have HWi : Hid (∀ W, Below w.heap.size w W → Calls Try.prog 78 #[.pointer q, I bn, I an] W (Ret (.bool false) W)) := fun W hb => by have := within09_any (K.on.keep hb) bn an; rwa [hw1] at this
  have HWj : Hid (∀ W, Below w.heap.size w W → Calls Try.prog 78 #[.pointer q, I an, I bn] W (Ret (.bool true) W)) := fun W hb => by have := within09_any (K.on.keep hb) an bn; rwa [hw2] at this
  have HC : Hid (∀ W, Below w.heap.size w W → Calls Try.prog 67 #[.pointer q, .agg #[I bn, I ba], .agg #[I an, I aa]] W (Ret (.tuple #[I (cmpL (T.key ⟨bn, ba⟩) (T.key ⟨an, aa⟩)), .bool true]) W)) := fun W hb =>
    cmp_down_any (⟨K.on.keep hb, K.m2, K.m1, K.eb, K.ea, K.hj, K.hi, K.hr.symm⟩ : CmpOk q T W bn ba an aa j i m n) hne ha
  have hd : (((T.root i : Nat) : Int) != ((T.root i : Nat) : Int)) = false := by simp
  have hd2 : (an == bn) = false := by rw [K.ea, K.eb]; simp; omega
  rw [hanti]
  clear K c1 c2 c3 c4 hw1 hw2 ha hnot hne hW hanti
  generalize T.root i = r1 at *
  generalize cmpL (T.key ⟨bn, ba⟩) (T.key ⟨an, aa⟩) = c at *
  have hc1 : -1 ≤ c ∧ c ≤ 1 := by omega
  clear hbd
  go_enter Try.func67, Try.ntmps67
  go_wp2_with fail
  (refine wp_region_quiet_below (by kernel_rfl) (by kernel_rfl) ?_; (repeat (go_big_quiet_step (first | ((with_reducible refine quietRet ((HM1).out _ ?_)); exact Below.trans (by exact (by repeat (first | exact Below.refl _ _ | assumption | (refine Below.setCell ?_ (by first | (simp; done) | (simp; omega) | omega) _) | (refine Below.alloc ?_ (by first | (simp; done) | (simp; omega) | omega) _) | (refine Below.drew ?_) | (refine Below.drewN' ?_ _)))) ((below_regrown _ _ _).mono (by first | (simp; done) | (simp; omega) | omega))) | ((with_reducible refine quietRet ((HM2).out _ ?_)); exact Below.trans (by exact (by repeat (first | exact Below.refl _ _ | assumption | (refine Below.setCell ?_ (by first | (simp; done) | (simp; omega) | omega) _) | (refine Below.alloc ?_ (by first | (simp; done) | (simp; omega) | omega) _) | (refine Below.drew ?_) | (refine Below.drewN' ?_ _)))) ((below_regrown _ _ _).mono (by first | (simp; done) | (simp; omega) | omega))) | ((with_reducible refine quietRet ((HR1).out _ ?_)); exact Below.trans (by exact (by repeat (first | exact Below.refl _ _ | assumption | (refine Below.setCell ?_ (by first | (simp; done) | (simp; omega) | omega) _) | (refine Below.alloc ?_ (by first | (simp; done) | (simp; omega) | omega) _) | (refine Below.drew ?_) | (refine Below.drewN' ?_ _)))) ((below_regrown _ _ _).mono (by first | (simp; done) | (simp; omega) | omega))) | ((with_reducible refine quietRet ((HR2).out _ ?_)); exact Below.trans (by exact (by repeat (first | exact Below.refl _ _ | assumption | (refine Below.setCell ?_ (by first | (simp; done) | (simp; omega) | omega) _) | (refine Below.alloc ?_ (by first | (simp; done) | (simp; omega) | omega) _) | (refine Below.drew ?_) | (refine Below.drewN' ?_ _)))) ((below_regrown _ _ _).mono (by first | (simp; done) | (simp; omega) | omega)))))); refine wpQuiet_nil ?_; intro w1 hw'; have hb := below_class hw'; clear hw'; have hz_w1 := hb.size; (try simp only [World.size_alloc, World.size_setCell, World.size_drew, size_drewN'] at hz_w1); have k0_w1 : At w1 (w.heap.size) 25 #[I an, I aa] := At.keep (by (repeat' (first | (with_reducible assumption) | (with_reducible refine unhid ?_; with_reducible assumption) | (with_reducible refine At.fresh _ _ _ (by first | (simp; done) | (simp; omega) | omega)) | (with_reducible apply At.set') | (with_reducible apply At.far) | (with_reducible apply At.alloc) | (with_reducible apply At.drew) | (with_reducible apply At.drewN) | exact (rfl : Array.setIfInBounds _ _ _ = _) | (refine Ne.symm ?_; simp; done) | (show _ ≠ _; simp; done) | (show _ ≠ _; simp; omega) | (show _ ≠ _; omega))); (first | done | fail)) hb; have k0_w1c := At.cell k0_w1; have k0_w1f := At.frozen k0_w1; have k0_w1h := Lib.hid k0_w1; clear k0_w1; have k1_w1 : At w1 (w.heap.size + 1) 25 #[I bn, I ba] := At.keep (by (repeat' (first | (with_reducible assumption) | (with_reducible refine unhid ?_; with_reducible assumption) | (with_reducible refine At.fresh _ _ _ (by first | (simp; done) | (simp; omega) | omega)) | (with_reducible apply At.set') | (with_reducible apply At.far) | (with_reducible apply At.alloc) | (with_reducible apply At.drew) | (with_reducible apply At.drewN) | exact (rfl : Array.setIfInBounds _ _ _ = _) | (refine Ne.symm ?_; simp; done) | (show _ ≠ _; simp; done) | (show _ ≠ _; simp; omega) | (show _ ≠ _; omega))); (first | done | fail)) hb; have k1_w1c := At.cell k1_w1; have k1_w1f := At.frozen k1_w1; have k1_w1h := Lib.hid k1_w1; clear k1_w1; have hb_w1 : Below w.heap.size w w1 := Below.trans (by exact (by repeat (first | exact Below.refl _ _ | assumption | (refine Below.setCell ?_ (by first | (simp; done) | (simp; omega) | omega) _) | (refine Below.alloc ?_ (by first | (simp; done) | (simp; omega) | omega) _) | (refine Below.drew ?_) | (refine Below.drewN' ?_ _)))) (hb.mono (by first | (simp; done) | (simp; omega) | omega)); obtain ⟨hc_w1, hf_w1⟩ := bcell hb_w1; clear hb)
  go_wp2_with (first | ((with_reducible refine (HWi.out _ (by repeat (first | exact Below.refl _ _ | assumption | (refine Below.setCell ?_ (by first | (simp; done) | (simp; omega) | omega) _) | (refine Below.alloc ?_ (by first | (simp; done) | (simp; omega) | omega) _) | (refine Below.drew ?_) | (refine Below.drewN' ?_ _)))).mono ?_); rintro e w2 ⟨rfl, hb⟩; have hz_w2 := hb.size; (try simp only [World.size_alloc, World.size_setCell, World.size_drew, size_drewN'] at hz_w2); have k0_w2 : At w2 (w.heap.size) 25 #[I an, I aa] := At.keep (by (repeat' (first | (with_reducible assumption) | (with_reducible refine unhid ?_; with_reducible assumption) | (with_reducible refine At.fresh _ _ _ (by first | (simp; done) | (simp; omega) | omega)) | (with_reducible apply At.set') | (with_reducible apply At.far) | (with_reducible apply At.alloc) | (with_reducible apply At.drew) | (with_reducible apply At.drewN) | exact (rfl : Array.setIfInBounds _ _ _ = _) | (refine Ne.symm ?_; simp; done) | (show _ ≠ _; simp; done) | (show _ ≠ _; simp; omega) | (show _ ≠ _; omega))); (first | done | fail)) hb; have k0_w2c := At.cell k0_w2; have k0_w2f := At.frozen k0_w2; have k0_w2h := Lib.hid k0_w2; clear k0_w2; have k1_w2 : At w2 (w.heap.size + 1) 25 #[I bn, I ba] := At.keep (by (repeat' (first | (with_reducible assumption) | (with_reducible refine unhid ?_; with_reducible assumption) | (with_reducible refine At.fresh _ _ _ (by first | (simp; done) | (simp; omega) | omega)) | (with_reducible apply At.set') | (with_reducible apply At.far) | (with_reducible apply At.alloc) | (with_reducible apply At.drew) | (with_reducible apply At.drewN) | exact (rfl : Array.setIfInBounds _ _ _ = _) | (refine Ne.symm ?_; simp; done) | (show _ ≠ _; simp; done) | (show _ ≠ _; simp; omega) | (show _ ≠ _; omega))); (first | done | fail)) hb; have k1_w2c := At.cell k1_w2; have k1_w2f := At.frozen k1_w2; have k1_w2h := Lib.hid k1_w2; clear k1_w2; have hb_w2 : Below w.heap.size w w2 := Below.trans (by exact (by repeat (first | exact Below.refl _ _ | assumption | (refine Below.setCell ?_ (by first | (simp; done) | (simp; omega) | omega) _) | (refine Below.alloc ?_ (by first | (simp; done) | (simp; omega) | omega) _) | (refine Below.drew ?_) | (refine Below.drewN' ?_ _)))) (hb.mono (by first | (simp; done) | (simp; omega) | omega)); obtain ⟨hc_w2, hf_w2⟩ := bcell hb_w2; clear hb) | ((with_reducible refine (HWj.out _ (by repeat (first | exact Below.refl _ _ | assumption | (refine Below.setCell ?_ (by first | (simp; done) | (simp; omega) | omega) _) | (refine Below.alloc ?_ (by first | (simp; done) | (simp; omega) | omega) _) | (refine Below.drew ?_) | (refine Below.drewN' ?_ _)))).mono ?_); rintro e w3 ⟨rfl, hb⟩; have hz_w3 := hb.size; (try simp only [World.size_alloc, World.size_setCell, World.size_drew, size_drewN'] at hz_w3); have k0_w3 : At w3 (w.heap.size) 25 #[I an, I aa] := At.keep (by (repeat' (first | (with_reducible assumption) | (with_reducible refine unhid ?_; with_reducible assumption) | (with_reducible refine At.fresh _ _ _ (by first | (simp; done) | (simp; omega) | omega)) | (with_reducible apply At.set') | (with_reducible apply At.far) | (with_reducible apply At.alloc) | (with_reducible apply At.drew) | (with_reducible apply At.drewN) | exact (rfl : Array.setIfInBounds _ _ _ = _) | (refine Ne.symm ?_; simp; done) | (show _ ≠ _; simp; done) | (show _ ≠ _; simp; omega) | (show _ ≠ _; omega))); (first | done | fail)) hb; have k0_w3c := At.cell k0_w3; have k0_w3f := At.frozen k0_w3; have k0_w3h := Lib.hid k0_w3; clear k0_w3; have k1_w3 : At w3 (w.heap.size + 1) 25 #[I bn, I ba] := At.keep (by (repeat' (first | (with_reducible assumption) | (with_reducible refine unhid ?_; with_reducible assumption) | (with_reducible refine At.fresh _ _ _ (by first | (simp; done) | (simp; omega) | omega)) | (with_reducible apply At.set') | (with_reducible apply At.far) | (with_reducible apply At.alloc) | (with_reducible apply At.drew) | (with_reducible apply At.drewN) | exact (rfl : Array.setIfInBounds _ _ _ = _) | (refine Ne.symm ?_; simp; done) | (show _ ≠ _; simp; done) | (show _ ≠ _; simp; omega) | (show _ ≠ _; omega))); (first | done | fail)) hb; have k1_w3c := At.cell k1_w3; have k1_w3f := At.frozen k1_w3; have k1_w3h := Lib.hid k1_w3; clear k1_w3; have hb_w3 : Below w.heap.size w w3 := Below.trans (by exact (by repeat (first | exact Below.refl _ _ | assumption | (refine Below.setCell ?_ (by first | (simp; done) | (simp; omega) | omega) _) | (refine Below.alloc ?_ (by first | (simp; done) | (simp; omega) | omega) _) | (refine Below.drew ?_) | (refine Below.drewN' ?_ _)))) (hb.mono (by first | (simp; done) | (simp; omega) | omega)); obtain ⟨hc_w3, hf_w3⟩ := bcell hb_w3; clear hb) | ((with_reducible refine (HC.out _ (by repeat (first | exact Below.refl _ _ | assumption | (refine Below.setCell ?_ (by first | (simp; done) | (simp; omega) | omega) _) | (refine Below.alloc ?_ (by first | (simp; done) | (simp; omega) | omega) _) | (refine Below.drew ?_) | (refine Below.drewN' ?_ _)))).mono ?_); rintro e w4 ⟨rfl, hb⟩; have hz_w4 := hb.size; (try simp only [World.size_alloc, World.size_setCell, World.size_drew, size_drewN'] at hz_w4); have hb_w4 : Below w.heap.size w w4 := Below.trans (by exact (by repeat (first | exact Below.refl _ _ | assumption | (refine Below.setCell ?_ (by first | (simp; done) | (simp; omega) | omega) _) | (refine Below.alloc ?_ (by first | (simp; done) | (simp; omega) | omega) _) | (refine Below.drew ?_) | (refine Below.drewN' ?_ _)))) (hb.mono (by first | (simp; done) | (simp; omega) | omega)); obtain ⟨hc_w4, hf_w4⟩ := bcell hb_w4; clear hb))
  go_ret2
  exact ⟨rfl, (by repeat (first | exact Below.refl _ _ | assumption | (refine Below.setCell ?_ (by first | (simp; done) | (simp; omega) | omega) _) | (refine Below.alloc ?_ (by first | (simp; done) | (simp; omega) | omega) _) | (refine Below.drew ?_) | (refine Below.drewN' ?_ _)))⟩

/-- Cmp, at any two places. -/
theorem cmp09_any (h : On q T w) (an aa bn ba : Int) :
    Calls Try.prog 67 #[.pointer q, .agg #[I an, I aa], .agg #[I bn, I ba]] w (Ret (.tuple #[I (T.cmp runeLen ⟨an, aa⟩ ⟨bn, ba⟩).1, .bool (T.cmp runeLen ⟨an, aa⟩ ⟨bn, ba⟩).2]) w) := by
  cases hc : (T.cmp runeLen ⟨an, aa⟩ ⟨bn, ba⟩).2 with
  | false =>
    rw [DT.cmp_no hc]
    exact cmp_no_any h an aa bn ba hc
  | true =>
    obtain ⟨i, j, n, m, K⟩ := cmp_get h hc
    rw [(DT.cmp_ok hc).2.2.2]
    dsimp only at K
    have hW := h.wf K.hi
    by_cases e : i = j
    · subst e
      have ea := K.ea
      have eb := K.eb
      subst ea eb
      rw [cmpI_keys ⟨(i : Int), aa⟩ ⟨(i : Int), ba⟩ rfl]
      exact cmp_same_any K
    · by_cases h1 : DT.Anc T j i
      · exact cmp_down_any K (fun e' => e e'.symm) h1
      · by_cases h2 : DT.Anc T i j
        · exact cmp_up_any K e h2
        · exact cmp_apart_any K h1 h2
end
end Go.Proofs.Ytnnjlpkjpbbklaa
