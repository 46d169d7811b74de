/-
  New, Element, Text of package dom. Conditions: the tree lies in memory.
-/
import Derived.Test.YtnnjlpkjpbbklaaDomAnew
import Derived.Test.YtnnjlpkjpbbklaaDomOps
set_option linter.unusedVariables false
set_option linter.unusedSimpArgs false
namespace Go.Proofs.Ytnnjlpkjpbbklaa
open Go.RowKit

theorem element_any {w : World} (tag : Int) : Calls Try.prog 122 #[I tag] w (Ret (.bool (elementOk tag)) w) := by
  unfold elementOk
  by_cases h1 : 1 ≤ tag
  · have hd : decide (1 ≤ tag) = true := by simp [h1]
    go_enter Try.func122, Try.ntmps122
    go_wp2_with fail
    all_goals (go_ret; exact ⟨ret_bool (by simp_all), Below.refl _ _⟩)
  · have hd : decide (1 ≤ tag) = false := by simp [h1]
    go_enter Try.func122, Try.ntmps122
    go_wp2_with fail
    all_goals (go_ret; exact ⟨ret_bool (by simp_all), Below.refl _ _⟩)

section
variable {w : World} {tb : Nat} {T : DT} {nv : Value} {G : List (Option NG)}

theorem Mut.of_below {S : Nat → Prop} {w' : World} (h : Rep w tb T nv G) (hS : ∀ b ∈ repBlocks tb nv G, S b) (hb : Below w.heap.size w w') : Mut tb T S w w' :=
  ⟨⟨nv, G, h.keep hb, fun b hb1 => .inl (hS b hb1)⟩, Only.of_below hb⟩
theorem Mut.after {S : Nat → Prop} {w1 w2 w3 : World} (hb : Below w1.heap.size w1 w2) (h : Mut tb T S w2 w3) : Mut tb T S w1 w3 := by
  obtain ⟨⟨nv, G, hr, hs⟩, ho⟩ := h
  have := hb.size
  refine ⟨⟨nv, G, hr, fun b hb1 => ?_⟩, (Only.of_below hb).trans ho fun i _ hi => hi⟩
  rcases hs b hb1 with h1 | h1
  · exact .inl h1
  · right; omega
theorem Mut.then_ {S : Nat → Prop} {w1 w2 w3 : World} (h : Mut tb T S w1 w2) (hb : Below w2.heap.size w2 w3) : Mut tb T S w1 w3 := by
  obtain ⟨⟨nv, G, hr, hs⟩, ho⟩ := h
  exact ⟨⟨nv, G, hr.keep hb, hs⟩, ho.trans (Only.of_below (S := S) hb) fun i _ hi => hi⟩

theorem room1_any (h : Rep w tb T nv G) (n : Int) (hn : -2000 ≤ T.cap ∧ T.cap ≤ 2000) (hl : T.nodes.length ≤ 2000) : Calls Try.prog 124 #[.pointer (some ⟨tb, 0, none⟩), I n] w (Ret (.bool (decide (n ≤ T.cap - (T.count : Int)))) w) := by
  have hc := h.tree.cell
  have hcnt : T.count ≤ 2000 := Nat.le_trans List.countP_le_length hl
  generalize T.count = c at *
  generalize T.cap = cap at *
  clear h
  have hw : (cap - (c : Int)) = (cap - (c : Int)) := rfl
  go_enter Try.func124, Try.ntmps124
  go_wp2_with fail
  go_quiet (fail)
  go_wp2_with fail
  go_ret
  refine ⟨ret_bool ?_, (by repeat (first | exact Below.refl _ _ | assumption | (refine Below.setCell ?_ (by first | (simp; done) | (simp; omega) | omega) _) | (refine Below.alloc ?_ (by first | (simp; done) | (simp; omega) | omega) _) | (refine Below.drew ?_) | (refine Below.drewN' ?_ _)))⟩
  rfl

theorem RowR.form {w : World} {size : Nat} {v : Value} {n : Nat} {xs : List Value} (h : RowR w size v n xs) : ∃ A cap, v = .slice A n cap := by
  rcases h.2 with ⟨rfl, rfl⟩ | ⟨A, cap, rfl, _⟩
  · exact ⟨none, 0, rfl⟩
  · exact ⟨_, cap, rfl⟩

theorem add_from (h : Rep w tb T nv G) {S : Nat → Prop} (hS : ∀ b ∈ repBlocks tb nv G, S b) (hl : T.nodes.length ≤ 2000) (tag : Int) {av : Value} (text : Bytes) {n : Nat} {al : List (Bytes × Bytes)}
    (ha : RowR w 2 av n (attrCells al)) (hn : n ≤ 1000000) (W : World) (hW : Below w.heap.size w W) :
    Calls Try.prog 126 #[.pointer (some ⟨tb, 0, none⟩), .agg #[I tag, av, .string text]] W fun e w' => e = .returned (I (T.slot : Nat)) ∧ Mut tb (T.addAt ⟨tag, al, text, [], none⟩) S w w' := by
  refine (add_any (h.keep hW) hS hl (ha.keep hW) hn).mono ?_
  rintro e w' ⟨q1, q2⟩
  exact ⟨q1, q2.after hW⟩

set_option maxHeartbeats 1000000 in
theorem element_op_any (h : Rep w tb T nv G) {S : Nat → Prop} (hS : ∀ b ∈ repBlocks tb nv G, S b) (hn : -2000 ≤ T.cap ∧ T.cap ≤ 2000) (hl : T.nodes.length ≤ 2000) (tag : Int) {av : Value} {n : Nat} {al : List (Bytes × Bytes)}
    (ha : RowR w 2 av n (attrCells al)) (hn' : n ≤ 1000000) :
    Calls Try.prog 59 #[.pointer (some ⟨tb, 0, none⟩), I tag, av] w fun e w' => e = .returned (.tuple #[I (T.element tag al).1.1, I (T.element tag al).1.2]) ∧ Mut tb (T.element tag al).2 S w w' := by
  obtain ⟨A, cap, rfl⟩ := ha.form
  have HE := Lib.hid (fun (W : World) => element_any (w := W) tag)
  have HR := Lib.hid (fun (W : World) (hW : Below w.heap.size w W) => room1_any (h.keep hW) 1 hn hl)
  have HA := Lib.hid (add_from h hS hl tag ⟨#[]⟩ ha hn')
  have HM0 := Lib.hid (fun (W : World) (hW : Below w.heap.size w W) => Mut.of_below h hS hW)
  clear h hS ha
  unfold DT.element
  cases hok : elementOk tag with
  | false =>
    rw [hok] at HE
    rw [if_pos rfl]
    go_enter Try.func59, Try.ntmps59
    go_wp2_with (first | ((with_reducible refine (HE.out _).mono ?_); rintro e w1 ⟨rfl, hb⟩; have hz_w1 := hb.size; (try simp only [World.size_alloc, World.size_setCell, World.size_drew, size_drewN'] at hz_w1); have hb_w1 : Below w.heap.size w w1 := Below.trans (by exact (by repeat (first | exact Below.refl _ _ | assumption | (refine Below.setCell ?_ (by first | (simp; done) | (simp; omega) | omega) _) | (refine Below.alloc ?_ (by first | (simp; done) | (simp; omega) | omega) _) | (refine Below.drew ?_) | (refine Below.drewN' ?_ _)))) (hb.mono (by first | (simp; done) | (simp; omega) | omega)); obtain ⟨hc_w1, hf_w1⟩ := bcell hb_w1; clear hb))
    go_ret2
    exact ⟨rfl, HM0.out _ (by repeat (first | exact Below.refl _ _ | assumption | (refine Below.setCell ?_ (by first | (simp; done) | (simp; omega) | omega) _) | (refine Below.alloc ?_ (by first | (simp; done) | (simp; omega) | omega) _) | (refine Below.drew ?_) | (refine Below.drewN' ?_ _)))⟩
  | true =>
    rw [hok] at HE
    rw [if_neg (by simp)]
    cases hr : T.roomFor 1 with
    | false =>
      unfold DT.roomFor at hr
      rw [hr] at HR
      rw [if_pos rfl]
      clear hr
      go_enter Try.func59, Try.ntmps59
      go_wp2_with (first | ((with_reducible refine (HE.out _).mono ?_); rintro e w1 ⟨rfl, hb⟩; have hz_w1 := hb.size; (try simp only [World.size_alloc, World.size_setCell, World.size_drew, size_drewN'] at hz_w1); have hb_w1 : Below w.heap.size w w1 := Below.trans (by exact (by repeat (first | exact Below.refl _ _ | assumption | (refine Below.setCell ?_ (by first | (simp; done) | (simp; omega) | omega) _) | (refine Below.alloc ?_ (by first | (simp; done) | (simp; omega) | omega) _) | (refine Below.drew ?_) | (refine Below.drewN' ?_ _)))) (hb.mono (by first | (simp; done) | (simp; omega) | omega)); obtain ⟨hc_w1, hf_w1⟩ := bcell hb_w1; clear hb) | ((with_reducible refine (HR.out _ (by repeat (first | exact Below.refl _ _ | assumption | (refine Below.setCell ?_ (by first | (simp; done) | (simp; omega) | omega) _) | (refine Below.alloc ?_ (by first | (simp; done) | (simp; omega) | omega) _) | (refine Below.drew ?_) | (refine Below.drewN' ?_ _)))).mono ?_); rintro e w2 ⟨rfl, hb⟩; have hz_w2 := hb.size; (try simp only [World.size_alloc, World.size_setCell, World.size_drew, size_drewN'] at hz_w2); have hb_w2 : Below w.heap.size w w2 := Below.trans (by exact (by repeat (first | exact Below.refl _ _ | assumption | (refine Below.setCell ?_ (by first | (simp; done) | (simp; omega) | omega) _) | (refine Below.alloc ?_ (by first | (simp; done) | (simp; omega) | omega) _) | (refine Below.drew ?_) | (refine Below.drewN' ?_ _)))) (hb.mono (by first | (simp; done) | (simp; omega) | omega)); obtain ⟨hc_w2, hf_w2⟩ := bcell hb_w2; clear hb))
      go_ret2
      exact ⟨rfl, HM0.out _ (by repeat (first | exact Below.refl _ _ | assumption | (refine Below.setCell ?_ (by first | (simp; done) | (simp; omega) | omega) _) | (refine Below.alloc ?_ (by first | (simp; done) | (simp; omega) | omega) _) | (refine Below.drew ?_) | (refine Below.drewN' ?_ _)))⟩
    | true =>
      unfold DT.roomFor at hr
      rw [hr] at HR
      rw [if_neg (by simp)]
      clear hr
      generalize (T.slot : Int) = sl at *
      go_enter Try.func59, Try.ntmps59
      go_wp2_with (first | ((with_reducible refine (HE.out _).mono ?_); rintro e w1 ⟨rfl, hb⟩; have hz_w1 := hb.size; (try simp only [World.size_alloc, World.size_setCell, World.size_drew, size_drewN'] at hz_w1); have hb_w1 : Below w.heap.size w w1 := Below.trans (by exact (by repeat (first | exact Below.refl _ _ | assumption | (refine Below.setCell ?_ (by first | (simp; done) | (simp; omega) | omega) _) | (refine Below.alloc ?_ (by first | (simp; done) | (simp; omega) | omega) _) | (refine Below.drew ?_) | (refine Below.drewN' ?_ _)))) (hb.mono (by first | (simp; done) | (simp; omega) | omega)); obtain ⟨hc_w1, hf_w1⟩ := bcell hb_w1; clear hb) | ((with_reducible refine (HR.out _ (by repeat (first | exact Below.refl _ _ | assumption | (refine Below.setCell ?_ (by first | (simp; done) | (simp; omega) | omega) _) | (refine Below.alloc ?_ (by first | (simp; done) | (simp; omega) | omega) _) | (refine Below.drew ?_) | (refine Below.drewN' ?_ _)))).mono ?_); rintro e w2 ⟨rfl, hb⟩; have hz_w2 := hb.size; (try simp only [World.size_alloc, World.size_setCell, World.size_drew, size_drewN'] at hz_w2); have hb_w2 : Below w.heap.size w w2 := Below.trans (by exact (by repeat (first | exact Below.refl _ _ | assumption | (refine Below.setCell ?_ (by first | (simp; done) | (simp; omega) | omega) _) | (refine Below.alloc ?_ (by first | (simp; done) | (simp; omega) | omega) _) | (refine Below.drew ?_) | (refine Below.drewN' ?_ _)))) (hb.mono (by first | (simp; done) | (simp; omega) | omega)); obtain ⟨hc_w2, hf_w2⟩ := bcell hb_w2; clear hb) | ((with_reducible refine (HA.out _ (by repeat (first | exact Below.refl _ _ | assumption | (refine Below.setCell ?_ (by first | (simp; done) | (simp; omega) | omega) _) | (refine Below.alloc ?_ (by first | (simp; done) | (simp; omega) | omega) _) | (refine Below.drew ?_) | (refine Below.drewN' ?_ _)))).mono ?_); rintro e w3 ⟨rfl, hm⟩; have HM := Lib.hid hm; clear hm))
      go_ret2
      exact ⟨rfl, HM.out⟩

set_option maxHeartbeats 1000000 in
theorem text_op_any (h : Rep w tb T nv G) {S : Nat → Prop} (hS : ∀ b ∈ repBlocks tb nv G, S b) (hn : -2000 ≤ T.cap ∧ T.cap ≤ 2000) (hl : T.nodes.length ≤ 2000) (s : Bytes) (hs : s.size ≤ 1000000) :
    Calls Try.prog 56 #[.pointer (some ⟨tb, 0, none⟩), .string s] w fun e w' => e = .returned (.tuple #[I (T.text (anew s)).1.1, I (T.text (anew s)).1.2]) ∧ Mut tb (T.text (anew s)).2 S w w' := by
  have HE := Lib.hid (fun (W : World) => anew_any (w := W) s hs)
  have hsz : (anew s).size ≤ 4000000 := by
    have h1 := runesBytes_size_le (runesOf s)
    have h2 := runesOf_le s
    unfold anew
    omega
  generalize anew s = t at *
  have HR := Lib.hid (fun (W : World) (hW : Below w.heap.size w W) => room1_any (h.keep hW) 1 hn hl)
  have HA := Lib.hid (add_from h hS hl 0 t (al := []) (RowR.nil w 2) (Nat.zero_le _))
  have HM0 := Lib.hid (fun (W : World) (hW : Below w.heap.size w W) => Mut.of_below h hS hW)
  clear h hS
  unfold DT.text
  by_cases hlen : 8192 < t.size
  · rw [if_pos hlen]
    go_enter Try.func56, Try.ntmps56
    go_wp2_with (first | ((with_reducible refine (HE.out _).mono ?_); rintro e w1 ⟨rfl, hb⟩; have hz_w1 := hb.size; (try simp only [World.size_alloc, World.size_setCell, World.size_drew, size_drewN'] at hz_w1); have hb_w1 : Below w.heap.size w w1 := Below.trans (by exact (by repeat (first | exact Below.refl _ _ | assumption | (refine Below.setCell ?_ (by first | (simp; done) | (simp; omega) | omega) _) | (refine Below.alloc ?_ (by first | (simp; done) | (simp; omega) | omega) _) | (refine Below.drew ?_) | (refine Below.drewN' ?_ _)))) (hb.mono (by first | (simp; done) | (simp; omega) | omega)); obtain ⟨hc_w1, hf_w1⟩ := bcell hb_w1; clear hb))
    go_ret2
    exact ⟨rfl, HM0.out _ (by repeat (first | exact Below.refl _ _ | assumption | (refine Below.setCell ?_ (by first | (simp; done) | (simp; omega) | omega) _) | (refine Below.alloc ?_ (by first | (simp; done) | (simp; omega) | omega) _) | (refine Below.drew ?_) | (refine Below.drewN' ?_ _)))⟩
  · rw [if_neg hlen]
    cases hr : T.roomFor 1 with
    | false =>
      unfold DT.roomFor at hr
      rw [hr] at HR
      rw [if_pos rfl]
      clear hr
      go_enter Try.func56, Try.ntmps56
      go_wp2_with (first | ((with_reducible refine (HE.out _).mono ?_); rintro e w1 ⟨rfl, hb⟩; have hz_w1 := hb.size; (try simp only [World.size_alloc, World.size_setCell, World.size_drew, size_drewN'] at hz_w1); have hb_w1 : Below w.heap.size w w1 := Below.trans (by exact (by repeat (first | exact Below.refl _ _ | assumption | (refine Below.setCell ?_ (by first | (simp; done) | (simp; omega) | omega) _) | (refine Below.alloc ?_ (by first | (simp; done) | (simp; omega) | omega) _) | (refine Below.drew ?_) | (refine Below.drewN' ?_ _)))) (hb.mono (by first | (simp; done) | (simp; omega) | omega)); obtain ⟨hc_w1, hf_w1⟩ := bcell hb_w1; clear hb) | ((with_reducible refine (HR.out _ (by repeat (first | exact Below.refl _ _ | assumption | (refine Below.setCell ?_ (by first | (simp; done) | (simp; omega) | omega) _) | (refine Below.alloc ?_ (by first | (simp; done) | (simp; omega) | omega) _) | (refine Below.drew ?_) | (refine Below.drewN' ?_ _)))).mono ?_); rintro e w2 ⟨rfl, hb⟩; have hz_w2 := hb.size; (try simp only [World.size_alloc, World.size_setCell, World.size_drew, size_drewN'] at hz_w2); have hb_w2 : Below w.heap.size w w2 := Below.trans (by exact (by repeat (first | exact Below.refl _ _ | assumption | (refine Below.setCell ?_ (by first | (simp; done) | (simp; omega) | omega) _) | (refine Below.alloc ?_ (by first | (simp; done) | (simp; omega) | omega) _) | (refine Below.drew ?_) | (refine Below.drewN' ?_ _)))) (hb.mono (by first | (simp; done) | (simp; omega) | omega)); obtain ⟨hc_w2, hf_w2⟩ := bcell hb_w2; clear hb))
      go_ret2
      exact ⟨rfl, HM0.out _ (by repeat (first | exact Below.refl _ _ | assumption | (refine Below.setCell ?_ (by first | (simp; done) | (simp; omega) | omega) _) | (refine Below.alloc ?_ (by first | (simp; done) | (simp; omega) | omega) _) | (refine Below.drew ?_) | (refine Below.drewN' ?_ _)))⟩
    | true =>
      unfold DT.roomFor at hr
      rw [hr] at HR
      rw [if_neg (by simp)]
      clear hr
      generalize (T.slot : Int) = sl at *
      go_enter Try.func56, Try.ntmps56
      go_wp2_with (first | ((with_reducible refine (HE.out _).mono ?_); rintro e w1 ⟨rfl, hb⟩; have hz_w1 := hb.size; (try simp only [World.size_alloc, World.size_setCell, World.size_drew, size_drewN'] at hz_w1); have hb_w1 : Below w.heap.size w w1 := Below.trans (by exact (by repeat (first | exact Below.refl _ _ | assumption | (refine Below.setCell ?_ (by first | (simp; done) | (simp; omega) | omega) _) | (refine Below.alloc ?_ (by first | (simp; done) | (simp; omega) | omega) _) | (refine Below.drew ?_) | (refine Below.drewN' ?_ _)))) (hb.mono (by first | (simp; done) | (simp; omega) | omega)); obtain ⟨hc_w1, hf_w1⟩ := bcell hb_w1; clear hb) | ((with_reducible refine (HR.out _ (by repeat (first | exact Below.refl _ _ | assumption | (refine Below.setCell ?_ (by first | (simp; done) | (simp; omega) | omega) _) | (refine Below.alloc ?_ (by first | (simp; done) | (simp; omega) | omega) _) | (refine Below.drew ?_) | (refine Below.drewN' ?_ _)))).mono ?_); rintro e w2 ⟨rfl, hb⟩; have hz_w2 := hb.size; (try simp only [World.size_alloc, World.size_setCell, World.size_drew, size_drewN'] at hz_w2); have hb_w2 : Below w.heap.size w w2 := Below.trans (by exact (by repeat (first | exact Below.refl _ _ | assumption | (refine Below.setCell ?_ (by first | (simp; done) | (simp; omega) | omega) _) | (refine Below.alloc ?_ (by first | (simp; done) | (simp; omega) | omega) _) | (refine Below.drew ?_) | (refine Below.drewN' ?_ _)))) (hb.mono (by first | (simp; done) | (simp; omega) | omega)); obtain ⟨hc_w2, hf_w2⟩ := bcell hb_w2; clear hb) | ((with_reducible refine (HA.out _ (by repeat (first | exact Below.refl _ _ | assumption | (refine Below.setCell ?_ (by first | (simp; done) | (simp; omega) | omega) _) | (refine Below.alloc ?_ (by first | (simp; done) | (simp; omega) | omega) _) | (refine Below.drew ?_) | (refine Below.drewN' ?_ _)))).mono ?_); rintro e w3 ⟨rfl, hm⟩; have HM := Lib.hid hm; clear hm))
      go_ret2
      exact ⟨rfl, HM.out⟩

/-- What New hands back. -/
def newOk (cap dep : Int) : Bool := decide (1 ≤ cap) && decide (cap ≤ 2000) && decide (0 ≤ dep) && decide (dep ≤ 40)

theorem new_bad {w : World} {cap dep : Int} (h : newOk cap dep = false) : Calls Try.prog 53 #[I cap, I dep] w (Ret (.tuple #[.pointer none, I 1]) w) := by
  unfold newOk at h
  go_enter Try.func53, Try.ntmps53
  go_wp2_with fail
  all_goals (first | (go_ret2; exact ⟨rfl, Below.refl _ _⟩) | (exfalso; simp_all; done) | (exfalso; simp_all; omega))

end
end Go.Proofs.Ytnnjlpkjpbbklaa
