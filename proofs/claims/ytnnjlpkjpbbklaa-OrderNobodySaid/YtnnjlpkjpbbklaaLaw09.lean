/-
  The helpers of chapter 9's statements: awake and tree. Conditions: the calls lie in memory.
-/
import Derived.Test.YtnnjlpkjpbbklaaOrdA
import Derived.Test.YtnnjlpkjpbbklaaLawA
import Derived.Test.YtnnjlpkjpbbklaaLawB
-- Law09Awake: awake of chapter 9's statements: it returns true. Conditions: none.
set_option linter.unusedVariables false
set_option linter.unusedSimpArgs false
namespace Go.Proofs.Ytnnjlpkjpbbklaa
open Go.RowKit

def ex0 : DT := DT.new 10 5
def exN : PNode := .mk 2 [] ⟨#[]⟩ [.mk 10 [] ⟨#[]⟩ [.mk 0 [] ⟨#[120, 121]⟩ []]]
def exM : PNode := .mk 2 [] ⟨#[]⟩ []
def ex1 : DT := (ex0.graft anew 0 0 exN).2
def ex2 : DT := (ex1.graft anew 0 1 exM).2
theorem ex_f1 : (ex0.graft anew 0 0 exN).1 = (1, 0) := by kernel_rfl
theorem ex_f2 : (ex1.graft anew 0 1 exM).1 = (4, 0) := by kernel_rfl
theorem ex_count : ex2.count = 5 := by kernel_rfl
theorem ex_cmp1 : ex2.cmp runeLen ⟨3, 1⟩ ⟨1, 1⟩ = (-1, true) := by kernel_rfl
theorem ex_cmp2 : ex2.cmp runeLen ⟨0, 1⟩ ⟨3, 2⟩ = (1, true) := by kernel_rfl
theorem ex_find : ex2.find 0 [0, 0, 0] = some 3 := by kernel_rfl
theorem ex_next3 : ex2.next 3 = 4 := by kernel_rfl
theorem ex_prev4 : ex2.prev 4 = 3 := by kernel_rfl
theorem ex_beh1 : ex2.behind 1 = 4 := by kernel_rfl
theorem ex_next4 : ex2.next 4 = -1 := by kernel_rfl

/-- A plain tree without attributes, whose kids lie in a row of their own. -/
theorem PV.of_at {w : World} {R : Nat → Prop} {t : Int} {x : Bytes} {b : Nat} {k : VN} (h : At w b 41 k.cells.toArray) (hR : R b) (hk : PV w R k) : PV w R (.mk t [] x (.slice none 0 0) (.slice (some ⟨b, 0, none⟩) 1 1) [k]) := by
  refine .mk (RowQ.nil _ _ _) ⟨by simp [kidsCells, VN.cells_length], .inr (.inr ⟨b, 0, 1, rfl, Nat.le_refl _, by unfold maxLen; omega, hR, fun j u hu => ?_⟩)⟩ (fun k' hk' => by rw [List.mem_singleton.1 hk']; exact hk)
  rw [Nat.zero_add, h.cell j]
  simpa [kidsCells] using hu
theorem PV.leaf {w : World} {R : Nat → Prop} (t : Int) (x : Bytes) : PV w R (.mk t [] x (.slice none 0 0) (.slice none 0 0) []) := .mk (RowQ.nil _ _ _) (RowQ.nil _ _ _) (fun k hk => by cases hk)

/-- A graft of what was laid since. -/
theorem Sat.graftSince {tb : Nat} {w0 w1 W : World} {T : DT} (h : Sat tb (fun _ => False) w0 T w1) (hb : Below w1.heap.size w1 W) (a b : Int) {V : VN} {R : Nat → Prop} (hP : PV W R V) (hR : ∀ b, R b → w1.heap.size ≤ b ∧ b < W.heap.size) (hs : V.node.small) (hz : V.node.size ≤ 100000) :
    Calls Try.prog 46 #[.pointer (some ⟨tb, 0, none⟩), I a, I b, V.agg] W fun e w' => e = .returned (.tuple #[I (T.graft anew a b V.node).1.1, I (T.graft anew a b V.node).1.2]) ∧ Sat tb (fun _ => False) w0 (T.graft anew a b V.node).2 w' := by
  obtain ⟨S1, h1, h2, h3, -⟩ := h.split
  refine ((h2 W hb).graft a b hP (fun x hx => ⟨(hR x hx).2, fun hs1 => by have := h1 x hs1; have := (hR x hx).1; omega⟩) hs hz).mono ?_
  rintro e w' ⟨he, hs'⟩
  exact ⟨he, h3 _ _ _ hb hs'⟩

set_option maxRecDepth 100000 in
set_option maxHeartbeats 2000000 in
theorem example09_any {w : World} : Calls Try.prog 144 #[] w fun e w' => e = .returned (.pointer (some ⟨w.heap.size, 0, none⟩)) ∧ Sat w.heap.size (fun _ => False) w ex2 w' := by
  have H0 : Hid (Calls Try.prog 53 #[I 10, I 5] w fun e w' => e = .returned (.tuple #[.pointer (some ⟨w.heap.size, 0, none⟩), I 0]) ∧ Sat w.heap.size (fun _ => False) w ex0 w') := new_sat (by decide)
  have H1 : Hid (∀ w1 W, Sat w.heap.size (fun _ => False) w ex0 w1 → Below w1.heap.size w1 W → ∀ b1 b2, w1.heap.size ≤ b1 → w1.heap.size ≤ b2 → At W b1 41 #[I 0, .slice none 0 0, .string ⟨#[120, 121]⟩, .slice none 0 0] → At W b2 41 #[I 10, .slice none 0 0, .string ⟨#[]⟩, .slice (some ⟨b1, 0, none⟩) 1 1] →
      Calls Try.prog 46 #[.pointer (some ⟨w.heap.size, 0, none⟩), I 0, I 0, .agg #[I 2, .slice none 0 0, .string ⟨#[]⟩, .slice (some ⟨b2, 0, none⟩) 1 1]] W fun e w' => e = .returned (.tuple #[I 1, I 0]) ∧ Sat w.heap.size (fun _ => False) w ex1 w') := by
    intro w1 W h hb b1 b2 hb1 hb2 k1 k2
    have hp := PV.of_at (R := fun b => w1.heap.size ≤ b ∧ b < W.heap.size) (t := 2) (x := ⟨#[]⟩) (b := b2) (k := .mk 10 [] ⟨#[]⟩ (.slice none 0 0) (.slice (some ⟨b1, 0, none⟩) 1 1) [.mk 0 [] ⟨#[120, 121]⟩ (.slice none 0 0) (.slice none 0 0) []]) k2 ⟨hb2, k2.lt⟩ (PV.of_at (t := 10) (x := ⟨#[]⟩) (b := b1) (k := .mk 0 [] ⟨#[120, 121]⟩ (.slice none 0 0) (.slice none 0 0) []) k1 ⟨hb1, k1.lt⟩ (PV.leaf _ _))
    have := h.graftSince hb 0 0 hp (fun b hb => hb) (by simp [VN.node, VN.nodeL, PNode.small, PNode.smallL]; decide) (by simp [VN.node, VN.nodeL, PNode.size, PNode.sizeL])
    have e : (VN.mk 2 [] ⟨#[]⟩ (.slice none 0 0) (.slice (some ⟨b2, 0, none⟩) 1 1) [.mk 10 [] ⟨#[]⟩ (.slice none 0 0) (.slice (some ⟨b1, 0, none⟩) 1 1) [.mk 0 [] ⟨#[120, 121]⟩ (.slice none 0 0) (.slice none 0 0) []]]).node = exN := rfl
    rw [e, ex_f1] at this
    exact this
  have H2 : Hid (∀ W, Sat w.heap.size (fun _ => False) w ex1 W → Calls Try.prog 46 #[.pointer (some ⟨w.heap.size, 0, none⟩), I 0, I 1, .agg #[I 2, .slice none 0 0, .string ⟨#[]⟩, .slice none 0 0]] W fun e w' => e = .returned (.tuple #[I 4, I 0]) ∧ Sat w.heap.size (fun _ => False) w ex2 w') := by
    intro W h
    have := h.graftSince (Below.refl _ _) 0 1 (PV.leaf (R := fun _ => False) 2 ⟨#[]⟩) (fun b hb => hb.elim) (by simp [VN.node, VN.nodeL, PNode.small, PNode.smallL]; decide) (by simp [VN.node, VN.nodeL, PNode.size, PNode.sizeL])
    have e : (VN.mk 2 [] ⟨#[]⟩ (.slice none 0 0) (.slice none 0 0) []).node = exM := rfl
    rw [e, ex_f2] at this
    exact this
  generalize ex0 = T0 at *
  generalize ex1 = T1 at *
  generalize ex2 = T2 at *
  go_enter Try.func144, Try.ntmps144
  go_wp2_with (first
    | ((with_reducible refine H0.out.mono ?_); rintro e w1 ⟨rfl, hs⟩; have K1 := Lib.hid hs; have hz1 := hs.size; clear hs)
    | ((with_reducible refine (H1.out w1 _ K1.out (by repeat (first | exact Below.refl _ _ | assumption | (refine Below.setCell ?_ (by first | (simp; done) | (simp; omega) | omega) _) | (refine Below.alloc ?_ (by first | (simp; done) | (simp; omega) | omega) _) | (refine Below.drew ?_) | (refine Below.drewN' ?_ _))) w1.heap.size (w1.heap.size + 1) (by first | (simp; done) | (simp; omega) | omega) (by first | (simp; done) | (simp; omega) | omega) (by (repeat' (first | (with_reducible assumption) | (with_reducible refine unhid ?_; with_reducible assumption) | (with_reducible refine At.fresh _ _ _ (by first | (simp; done) | (simp; omega) | omega)) | (with_reducible apply At.set') | (with_reducible apply At.far) | (with_reducible apply At.alloc) | (with_reducible apply At.drew) | (with_reducible apply At.drewN) | exact (rfl : Array.setIfInBounds _ _ _ = _) | (refine Ne.symm ?_; simp; done) | (show _ ≠ _; simp; done) | (show _ ≠ _; simp; omega) | (show _ ≠ _; omega))); (first | done | fail)) (by (repeat' (first | (with_reducible assumption) | (with_reducible refine unhid ?_; with_reducible assumption) | (with_reducible refine At.fresh _ _ _ (by first | (simp; done) | (simp; omega) | omega)) | (with_reducible apply At.set') | (with_reducible apply At.far) | (with_reducible apply At.alloc) | (with_reducible apply At.drew) | (with_reducible apply At.drewN) | exact (rfl : Array.setIfInBounds _ _ _ = _) | (refine Ne.symm ?_; simp; done) | (show _ ≠ _; simp; done) | (show _ ≠ _; simp; omega) | (show _ ≠ _; omega))); (first | done | fail))).mono ?_); rintro e w2 ⟨rfl, hs⟩; have K2 := Lib.hid hs; clear hs)
    | ((with_reducible refine (H2.out _ K2.out).mono ?_); rintro e w3 ⟨rfl, hs⟩; have K3 := Lib.hid hs; clear hs))
  go_ret
  exact ⟨rfl, K3.out⟩

theorem zeros_li {w : World} {b : Nat} (h : At w b 3 #[I 0, I 0, I 0]) : LI w (.slice (some ⟨b, 0, none⟩) 3 3) [0, 0, 0] := by
  refine ⟨_, 3, rfl, Nat.le_refl _, by unfold maxLen; omega, fun j hj => ⟨b, 0, rfl, ?_⟩⟩
  rw [Nat.zero_add, h.cell j]
  simp only [List.length_cons, List.length_nil] at hj
  rcases j with _ | _ | _ | j
  · rfl
  · rfl
  · rfl
  · omega

set_option maxRecDepth 100000 in
set_option maxHeartbeats 2000000 in
theorem awake09_any {w : World} : Calls Try.prog 66 #[] w (Ret (.bool true) w) := by
  have H0 := Lib.hid (example09_any (w := w))
  have HS : Hid (∀ W, Sat w.heap.size (fun _ => False) w ex2 W → On (some ⟨w.heap.size, 0, none⟩) ex2 W ∧ Below w.heap.size w W ∧ Calls Try.prog 34 #[.pointer (some ⟨w.heap.size, 0, none⟩)] W fun e w' => e = .returned (I 5) ∧ W = w') := fun W h => ⟨h.on, h.old, by have := h.count; rwa [ex_count] at this⟩
  have F1 : Hid (∀ W, On (some ⟨w.heap.size, 0, none⟩) ex2 W → Calls Try.prog 67 #[.pointer (some ⟨w.heap.size, 0, none⟩), .agg #[I 3, I 1], .agg #[I 1, I 1]] W (Ret (.tuple #[I (-1), .bool true]) W)) := fun W h => by
    have := cmp09_any h 3 1 1 1; rwa [ex_cmp1] at this
  have F2 : Hid (∀ W, On (some ⟨w.heap.size, 0, none⟩) ex2 W → Calls Try.prog 67 #[.pointer (some ⟨w.heap.size, 0, none⟩), .agg #[I 0, I 1], .agg #[I 3, I 2]] W (Ret (.tuple #[I 1, .bool true]) W)) := fun W h => by
    have := cmp09_any h 0 1 3 2; rwa [ex_cmp2] at this
  have F3 : Hid (∀ W b, On (some ⟨w.heap.size, 0, none⟩) ex2 W → At W b 3 #[I 0, I 0, I 0] → Calls Try.prog 68 #[.pointer (some ⟨w.heap.size, 0, none⟩), I 0, .slice (some ⟨b, 0, none⟩) 3 3] W (Ret (.tuple #[I 3, .bool true]) W)) := fun W b h k => by
    have := find_any h 0 (zeros_li k) (by simp); rwa [ex_find] at this
  have F4 : Hid (∀ W, On (some ⟨w.heap.size, 0, none⟩) ex2 W → Calls Try.prog 71 #[.pointer (some ⟨w.heap.size, 0, none⟩), I 3] W (Ret (I 4) W)) := fun W h => by
    have := next_any h 3; rwa [ex_next3] at this
  have F5 : Hid (∀ W, On (some ⟨w.heap.size, 0, none⟩) ex2 W → Calls Try.prog 72 #[.pointer (some ⟨w.heap.size, 0, none⟩), I 4] W (Ret (I 3) W)) := fun W h => by
    have := prev_any h 4; rwa [ex_prev4] at this
  have F6 : Hid (∀ W, On (some ⟨w.heap.size, 0, none⟩) ex2 W → Calls Try.prog 73 #[.pointer (some ⟨w.heap.size, 0, none⟩), I 1] W (Ret (I 4) W)) := fun W h => by
    have := behind_any h 1; rwa [ex_beh1] at this
  have F7 : Hid (∀ W, On (some ⟨w.heap.size, 0, none⟩) ex2 W → Calls Try.prog 71 #[.pointer (some ⟨w.heap.size, 0, none⟩), I 4] W (Ret (I (-1)) W)) := fun W h => by
    have := next_any h 4; rwa [ex_next4] at this
  generalize ex2 = T at *
  go_enter Try.func66, Try.ntmps66
  go_wp2_with (first
    | ((with_reducible refine H0.out.mono ?_); rintro e w1 ⟨rfl, hs⟩; obtain ⟨ho, hb_w1, hcn⟩ := HS.out _ hs; have hz_w1 := hb_w1.size; have K := Lib.hid ho; have KC := Lib.hid hcn; have hsl := Lib.hid hs.lt; clear hs ho hcn)
    | ((with_reducible refine KC.out.mono ?_); rintro e w' ⟨rfl, rfl⟩)
    | ((with_reducible refine (F1.out _ (K.out.keep (by repeat (first | exact Below.refl _ _ | assumption | (refine Below.setCell ?_ (by first | (simp; done) | (simp; omega) | omega) _) | (refine Below.alloc ?_ (by first | (simp; done) | (simp; omega) | omega) _) | (refine Below.drew ?_) | (refine Below.drewN' ?_ _))))).mono ?_); rintro e w2 ⟨rfl, hb⟩; have hz_w2 := hb.size; (try simp only [World.size_alloc, World.size_setCell, World.size_drew, size_drewN'] at hz_w2); have hb_w2 : Below w1.heap.size w1 w2 := Below.trans (by exact (by repeat (first | exact Below.refl _ _ | assumption | (refine Below.setCell ?_ (by first | (simp; done) | (simp; omega) | omega) _) | (refine Below.alloc ?_ (by first | (simp; done) | (simp; omega) | omega) _) | (refine Below.drew ?_) | (refine Below.drewN' ?_ _)))) (hb.mono (by first | (simp; done) | (simp; omega) | omega)); obtain ⟨hc_w2, hf_w2⟩ := bcell hb_w2; clear hb)
    | ((with_reducible refine (F2.out _ (K.out.keep (by repeat (first | exact Below.refl _ _ | assumption | (refine Below.setCell ?_ (by first | (simp; done) | (simp; omega) | omega) _) | (refine Below.alloc ?_ (by first | (simp; done) | (simp; omega) | omega) _) | (refine Below.drew ?_) | (refine Below.drewN' ?_ _))))).mono ?_); rintro e w3 ⟨rfl, hb⟩; have hz_w3 := hb.size; (try simp only [World.size_alloc, World.size_setCell, World.size_drew, size_drewN'] at hz_w3); have hb_w3 : Below w1.heap.size w1 w3 := Below.trans (by exact (by repeat (first | exact Below.refl _ _ | assumption | (refine Below.setCell ?_ (by first | (simp; done) | (simp; omega) | omega) _) | (refine Below.alloc ?_ (by first | (simp; done) | (simp; omega) | omega) _) | (refine Below.drew ?_) | (refine Below.drewN' ?_ _)))) (hb.mono (by first | (simp; done) | (simp; omega) | omega)); obtain ⟨hc_w3, hf_w3⟩ := bcell hb_w3; clear hb)
    | ((with_reducible refine (F3.out _ _ (K.out.keep (by repeat (first | exact Below.refl _ _ | assumption | (refine Below.setCell ?_ (by first | (simp; done) | (simp; omega) | omega) _) | (refine Below.alloc ?_ (by first | (simp; done) | (simp; omega) | omega) _) | (refine Below.drew ?_) | (refine Below.drewN' ?_ _)))) (by (repeat' (first | (with_reducible assumption) | (with_reducible refine unhid ?_; with_reducible assumption) | (with_reducible refine At.fresh _ _ _ (by first | (simp; done) | (simp; omega) | omega)) | (with_reducible apply At.set') | (with_reducible apply At.far) | (with_reducible apply At.alloc) | (with_reducible apply At.drew) | (with_reducible apply At.drewN) | exact (rfl : Array.setIfInBounds _ _ _ = _) | (refine Ne.symm ?_; simp; done) | (show _ ≠ _; simp; done) | (show _ ≠ _; simp; omega) | (show _ ≠ _; omega))); (first | done | fail))).mono ?_); rintro e w4 ⟨rfl, hb⟩; have hz_w4 := hb.size; (try simp only [World.size_alloc, World.size_setCell, World.size_drew, size_drewN'] at hz_w4); have hb_w4 : Below w1.heap.size w1 w4 := Below.trans (by exact (by repeat (first | exact Below.refl _ _ | assumption | (refine Below.setCell ?_ (by first | (simp; done) | (simp; omega) | omega) _) | (refine Below.alloc ?_ (by first | (simp; done) | (simp; omega) | omega) _) | (refine Below.drew ?_) | (refine Below.drewN' ?_ _)))) (hb.mono (by first | (simp; done) | (simp; omega) | omega)); obtain ⟨hc_w4, hf_w4⟩ := bcell hb_w4; clear hb)
    | ((with_reducible refine (F4.out _ (K.out.keep (by repeat (first | exact Below.refl _ _ | assumption | (refine Below.setCell ?_ (by first | (simp; done) | (simp; omega) | omega) _) | (refine Below.alloc ?_ (by first | (simp; done) | (simp; omega) | omega) _) | (refine Below.drew ?_) | (refine Below.drewN' ?_ _))))).mono ?_); rintro e w5 ⟨rfl, hb⟩; have hz_w5 := hb.size; (try simp only [World.size_alloc, World.size_setCell, World.size_drew, size_drewN'] at hz_w5); have hb_w5 : Below w1.heap.size w1 w5 := Below.trans (by exact (by repeat (first | exact Below.refl _ _ | assumption | (refine Below.setCell ?_ (by first | (simp; done) | (simp; omega) | omega) _) | (refine Below.alloc ?_ (by first | (simp; done) | (simp; omega) | omega) _) | (refine Below.drew ?_) | (refine Below.drewN' ?_ _)))) (hb.mono (by first | (simp; done) | (simp; omega) | omega)); obtain ⟨hc_w5, hf_w5⟩ := bcell hb_w5; clear hb)
    | ((with_reducible refine (F5.out _ (K.out.keep (by repeat (first | exact Below.refl _ _ | assumption | (refine Below.setCell ?_ (by first | (simp; done) | (simp; omega) | omega) _) | (refine Below.alloc ?_ (by first | (simp; done) | (simp; omega) | omega) _) | (refine Below.drew ?_) | (refine Below.drewN' ?_ _))))).mono ?_); rintro e w6 ⟨rfl, hb⟩; have hz_w6 := hb.size; (try simp only [World.size_alloc, World.size_setCell, World.size_drew, size_drewN'] at hz_w6); have hb_w6 : Below w1.heap.size w1 w6 := Below.trans (by exact (by repeat (first | exact Below.refl _ _ | assumption | (refine Below.setCell ?_ (by first | (simp; done) | (simp; omega) | omega) _) | (refine Below.alloc ?_ (by first | (simp; done) | (simp; omega) | omega) _) | (refine Below.drew ?_) | (refine Below.drewN' ?_ _)))) (hb.mono (by first | (simp; done) | (simp; omega) | omega)); obtain ⟨hc_w6, hf_w6⟩ := bcell hb_w6; clear hb)
    | ((with_reducible refine (F6.out _ (K.out.keep (by repeat (first | exact Below.refl _ _ | assumption | (refine Below.setCell ?_ (by first | (simp; done) | (simp; omega) | omega) _) | (refine Below.alloc ?_ (by first | (simp; done) | (simp; omega) | omega) _) | (refine Below.drew ?_) | (refine Below.drewN' ?_ _))))).mono ?_); rintro e w7 ⟨rfl, hb⟩; have hz_w7 := hb.size; (try simp only [World.size_alloc, World.size_setCell, World.size_drew, size_drewN'] at hz_w7); have hb_w7 : Below w1.heap.size w1 w7 := Below.trans (by exact (by repeat (first | exact Below.refl _ _ | assumption | (refine Below.setCell ?_ (by first | (simp; done) | (simp; omega) | omega) _) | (refine Below.alloc ?_ (by first | (simp; done) | (simp; omega) | omega) _) | (refine Below.drew ?_) | (refine Below.drewN' ?_ _)))) (hb.mono (by first | (simp; done) | (simp; omega) | omega)); obtain ⟨hc_w7, hf_w7⟩ := bcell hb_w7; clear hb)
    | ((with_reducible refine (F7.out _ (K.out.keep (by repeat (first | exact Below.refl _ _ | assumption | (refine Below.setCell ?_ (by first | (simp; done) | (simp; omega) | omega) _) | (refine Below.alloc ?_ (by first | (simp; done) | (simp; omega) | omega) _) | (refine Below.drew ?_) | (refine Below.drewN' ?_ _))))).mono ?_); rintro e w8 ⟨rfl, hb⟩; have hz_w8 := hb.size; (try simp only [World.size_alloc, World.size_setCell, World.size_drew, size_drewN'] at hz_w8); have hb_w8 : Below w1.heap.size w1 w8 := Below.trans (by exact (by repeat (first | exact Below.refl _ _ | assumption | (refine Below.setCell ?_ (by first | (simp; done) | (simp; omega) | omega) _) | (refine Below.alloc ?_ (by first | (simp; done) | (simp; omega) | omega) _) | (refine Below.drew ?_) | (refine Below.drewN' ?_ _)))) (hb.mono (by first | (simp; done) | (simp; omega) | omega)); obtain ⟨hc_w8, hf_w8⟩ := bcell hb_w8; clear hb))
  go_ret
  exact ⟨rfl, hb_w1.trans (Below.mono (show Below w1.heap.size w1 _ from (by repeat (first | exact Below.refl _ _ | assumption | (refine Below.setCell ?_ (by first | (simp; done) | (simp; omega) | omega) _) | (refine Below.alloc ?_ (by first | (simp; done) | (simp; omega) | omega) _) | (refine Below.drew ?_) | (refine Below.drewN' ?_ _)))) hz_w1)⟩
end Go.Proofs.Ytnnjlpkjpbbklaa

-- Tree09: tree of chapter 9's statements: a tree behind calls, or none. Conditions: the calls lie in memory.
namespace Go.Proofs.Ytnnjlpkjpbbklaa
open Go.RowKit

/-- Is there a tree? -/
def isTree (l : List CN) (cap dep : Int) : Bool := !heavy (l.map CN.call) && newOk cap dep

theorem isTree_wf {l : List CN} {cap dep : Int} (h : isTree l cap dep = true) : ((DT.new cap dep).play anew (l.map CN.call)).WF := by
  unfold isTree at h
  rw [Bool.and_eq_true] at h
  have hc : 1 ≤ cap ∧ cap ≤ 2000 ∧ 0 ≤ dep ∧ dep ≤ 40 := by have := h.2; simp [newOk] at this; omega
  exact (DT.new_wf hc.1 hc.2.1 hc.2.2.1 hc.2.2.2).play _

set_option maxHeartbeats 1000000 in
theorem tree09_no {w : World} {R : Nat → Prop} {v : Value} {l : List CN} (h : CallsAt w R v l) (hR : ∀ b, R b → b < w.heap.size) {cap dep : Int} (hok : isTree l cap dep = false) :
    Calls Try.prog 80 #[I cap, I dep, v] w (Ret (.pointer none) w) := by
  obtain ⟨A, vcap, hv, hcap, hmx, -⟩ := h.row.form
  have HHe := Lib.hid (heavy_any h hR)
  unfold isTree at hok
  cases hhe : heavy (l.map CN.call) with
  | true =>
    rw [hhe] at HHe
    subst hv
    clear h hhe hok
    generalize l.length = n at *
    go_enter Try.func80, Try.ntmps80
    go_wp2_with (first | ((with_reducible refine (HHe.out).mono ?_); rintro e w1 ⟨rfl, hb⟩; have hz_w1 := hb.size; (try simp only [World.size_alloc, World.size_setCell, World.size_drew, size_drewN'] at hz_w1); have hb_w1 : Below w.heap.size w w1 := Below.trans (by exact (by repeat (first | exact Below.refl _ _ | assumption | (refine Below.setCell ?_ (by first | (simp; done) | (simp; omega) | omega) _) | (refine Below.alloc ?_ (by first | (simp; done) | (simp; omega) | omega) _) | (refine Below.drew ?_) | (refine Below.drewN' ?_ _)))) (hb.mono (by first | (simp; done) | (simp; omega) | omega)); obtain ⟨hc_w1, hf_w1⟩ := bcell hb_w1; clear hb))
    go_ret
    exact ⟨rfl, (by repeat (first | exact Below.refl _ _ | assumption | (refine Below.setCell ?_ (by first | (simp; done) | (simp; omega) | omega) _) | (refine Below.alloc ?_ (by first | (simp; done) | (simp; omega) | omega) _) | (refine Below.drew ?_) | (refine Below.drewN' ?_ _)))⟩
  | false =>
    rw [hhe] at HHe hok
    have HPl := Lib.hid (fun (W : World) => played_no (w := W) (v := v) (by simpa using hok))
    subst hv
    clear h hhe hok
    generalize l.length = n at *
    go_enter Try.func80, Try.ntmps80
    go_wp2_with (first | ((with_reducible refine (HHe.out).mono ?_); rintro e w1 ⟨rfl, hb⟩; have hz_w1 := hb.size; (try simp only [World.size_alloc, World.size_setCell, World.size_drew, size_drewN'] at hz_w1); have hb_w1 : Below w.heap.size w w1 := Below.trans (by exact (by repeat (first | exact Below.refl _ _ | assumption | (refine Below.setCell ?_ (by first | (simp; done) | (simp; omega) | omega) _) | (refine Below.alloc ?_ (by first | (simp; done) | (simp; omega) | omega) _) | (refine Below.drew ?_) | (refine Below.drewN' ?_ _)))) (hb.mono (by first | (simp; done) | (simp; omega) | omega)); obtain ⟨hc_w1, hf_w1⟩ := bcell hb_w1; clear hb) | ((with_reducible refine (HPl.out _).mono ?_); rintro e w2 ⟨rfl, hb⟩; have hz_w2 := hb.size; (try simp only [World.size_alloc, World.size_setCell, World.size_drew, size_drewN'] at hz_w2); have hb_w2 : Below w.heap.size w w2 := Below.trans (by exact (by repeat (first | exact Below.refl _ _ | assumption | (refine Below.setCell ?_ (by first | (simp; done) | (simp; omega) | omega) _) | (refine Below.alloc ?_ (by first | (simp; done) | (simp; omega) | omega) _) | (refine Below.drew ?_) | (refine Below.drewN' ?_ _)))) (hb.mono (by first | (simp; done) | (simp; omega) | omega)); obtain ⟨hc_w2, hf_w2⟩ := bcell hb_w2; clear hb))
    go_ret
    exact ⟨rfl, (by repeat (first | exact Below.refl _ _ | assumption | (refine Below.setCell ?_ (by first | (simp; done) | (simp; omega) | omega) _) | (refine Below.alloc ?_ (by first | (simp; done) | (simp; omega) | omega) _) | (refine Below.drew ?_) | (refine Below.drewN' ?_ _)))⟩

set_option maxHeartbeats 1000000 in
theorem tree09_yes {w : World} {R : Nat → Prop} {v : Value} {l : List CN} (h : CallsAt w R v l) (hR : ∀ b, R b → b < w.heap.size) {cap dep : Int} (hok : isTree l cap dep = true) :
    Calls Try.prog 80 #[I cap, I dep, v] w fun e w' => ∃ tb, e = .returned (.pointer (some ⟨tb, 0, none⟩)) ∧ Sat tb (fun _ => False) w ((DT.new cap dep).play anew (l.map CN.call)) w' := by
  obtain ⟨A, vcap, hv, hcap, hmx, -⟩ := h.row.form
  have HHe := Lib.hid (heavy_any h hR)
  unfold isTree at hok
  rw [Bool.and_eq_true, Bool.not_eq_true'] at hok
  obtain ⟨hhe, hnew⟩ := hok
  rw [hhe] at HHe
  obtain ⟨hn, hlt0⟩ := heavy_light hhe
  rw [List.length_map] at hn
  have hlt : ∀ c ∈ l, Light c.call := fun c hc => hlt0 _ (List.mem_map.2 ⟨c, hc, rfl⟩)
  have HPl : Hid (∀ W, Below w.heap.size w W → Calls Try.prog 32 #[I cap, I dep, v] W fun e w' => ∃ tb, e = .returned (.pointer (some ⟨tb, 0, none⟩)) ∧ Sat tb (fun _ => False) w ((DT.new cap dep).play anew (l.map CN.call)) w') := fun W hb =>
    (played_ok (h.keep fun b hb1 => hb.block b (hR b hb1)) (fun b hb1 => Nat.lt_of_lt_of_le (hR b hb1) hb.size) hlt hn hnew).mono fun e w' ⟨tb, he, hs⟩ => ⟨tb, he, ⟨⟨hs.mut_.1.imp fun nv ⟨G, hr, hs1⟩ => ⟨G, hr, fun b hb1 => by rcases hs1 b hb1 with h1 | h1; exact .inl h1; exact .inr (Nat.le_trans hb.size h1)⟩, Only.of_below (hb.trans (hs.old.mono hb.size))⟩, hs.wf, hs.ab⟩⟩
  subst hv
  clear h hhe hlt0 hlt hnew
  generalize (DT.new cap dep).play anew (l.map CN.call) = T at *
  generalize l.length = n at *
  go_enter Try.func80, Try.ntmps80
  go_wp2_with (first | ((with_reducible refine (HHe.out).mono ?_); rintro e w1 ⟨rfl, hb⟩; have hz_w1 := hb.size; (try simp only [World.size_alloc, World.size_setCell, World.size_drew, size_drewN'] at hz_w1); have hb_w1 : Below w.heap.size w w1 := Below.trans (by exact (by repeat (first | exact Below.refl _ _ | assumption | (refine Below.setCell ?_ (by first | (simp; done) | (simp; omega) | omega) _) | (refine Below.alloc ?_ (by first | (simp; done) | (simp; omega) | omega) _) | (refine Below.drew ?_) | (refine Below.drewN' ?_ _)))) (hb.mono (by first | (simp; done) | (simp; omega) | omega)); obtain ⟨hc_w1, hf_w1⟩ := bcell hb_w1; clear hb) | ((with_reducible refine (HPl.out _ (by repeat (first | exact Below.refl _ _ | assumption | (refine Below.setCell ?_ (by first | (simp; done) | (simp; omega) | omega) _) | (refine Below.alloc ?_ (by first | (simp; done) | (simp; omega) | omega) _) | (refine Below.drew ?_) | (refine Below.drewN' ?_ _)))).mono ?_); rintro e wP ⟨tb, rfl, hs⟩; have K := Lib.hid hs; clear hs))
  go_ret
  exact ⟨tb, rfl, K.out⟩
end Go.Proofs.Ytnnjlpkjpbbklaa
