/-
  awake of chapter 8's statements: it returns true. Conditions: none.
-/
import Derived.Test.YtnnjlpkjpbbklaaLawSat
set_option linter.unusedVariables false
set_option linter.unusedSimpArgs false
namespace Go.Proofs.Ytnnjlpkjpbbklaa
open Go.RowKit

def aw0 : DT := DT.new 3 1
def aw1 : DT := (aw0.element 2 []).2
def aw2 : DT := (aw1.text (anew ⟨#[97]⟩)).2
def aw3 : DT := (aw2.insert 0 0 1).2
theorem aw_f1 : (aw0.element 2 []).1 = (1, 0) := by kernel_rfl
theorem aw_f2 : (aw1.text (anew ⟨#[97]⟩)).1 = (2, 0) := by kernel_rfl
theorem aw_f3 : (aw2.insert 0 0 1).1 = 0 := by kernel_rfl
theorem aw_f4 : (aw3.insert 1 0 2).1 = 4 := by kernel_rfl
theorem aw_f5 : (aw3.insert 1 0 2).2 = aw3 := DT.insert_no (by rw [aw_f4]; decide)
theorem aw_f6 : aw3.count = 3 := by kernel_rfl
theorem aw_f7 : aw3.live 1 = true := by kernel_rfl
theorem aw_f8 : aw3.live 2 = false := by kernel_rfl

set_option maxHeartbeats 1000000 in
theorem awake08_any {w : World} : Calls Try.prog 31 #[] w (Ret (.bool true) w) := by
  have H0 : Hid (Calls Try.prog 53 #[I 3, I 1] w fun e w' => e = .returned (.tuple #[.pointer (some ⟨w.heap.size, 0, none⟩), I 0]) ∧ Sat w.heap.size (fun _ => False) w aw0 w') := new_sat (by decide)
  have H1 : Hid (∀ W, Sat w.heap.size (fun _ => False) w aw0 W → Calls Try.prog 59 #[.pointer (some ⟨w.heap.size, 0, none⟩), I 2, .slice none 0 0] W fun e w' => e = .returned (.tuple #[I 1, I 0]) ∧ Sat w.heap.size (fun _ => False) w aw1 w') := by
    intro W h
    have := h.element 2 (al := []) (RowR.nil W 2) (by omega)
    rwa [aw_f1] at this
  have H2 : Hid (∀ W, Sat w.heap.size (fun _ => False) w aw1 W → Calls Try.prog 56 #[.pointer (some ⟨w.heap.size, 0, none⟩), .string ⟨#[97]⟩] W fun e w' => e = .returned (.tuple #[I 2, I 0]) ∧ Sat w.heap.size (fun _ => False) w aw2 w') := by
    intro W h
    have := h.text ⟨#[97]⟩ (by decide)
    rwa [aw_f2] at this
  have H3 : Hid (∀ W, Sat w.heap.size (fun _ => False) w aw2 W → Calls Try.prog 36 #[.pointer (some ⟨w.heap.size, 0, none⟩), I 0, I 0, I 1] W fun e w' => e = .returned (I 0) ∧ Sat w.heap.size (fun _ => False) w aw3 w') := by
    intro W h
    have := h.insert 0 0 1
    rwa [aw_f3] at this
  have H4 : Hid (∀ W, Sat w.heap.size (fun _ => False) w aw3 W → Calls Try.prog 36 #[.pointer (some ⟨w.heap.size, 0, none⟩), I 1, I 0, I 2] W fun e w' => e = .returned (I 4) ∧ Sat w.heap.size (fun _ => False) w aw3 w') := by
    intro W h
    have := h.insert 1 0 2
    rwa [aw_f4, aw_f5] at this
  have H5 : Hid (∀ W, Sat w.heap.size (fun _ => False) w aw3 W → Calls Try.prog 34 #[.pointer (some ⟨w.heap.size, 0, none⟩)] W fun e w' => e = .returned (I 3) ∧ W = w') := by
    intro W h
    have := h.count
    rwa [aw_f6] at this
  have H6 : Hid (∀ W, Sat w.heap.size (fun _ => False) w aw3 W → Calls Try.prog 43 #[.pointer (some ⟨w.heap.size, 0, none⟩), I 1] W fun e w' => e = .returned (.bool true) ∧ W = w') := by
    intro W h
    have := h.live 1
    rwa [aw_f7] at this
  have H7 : Hid (∀ W, Sat w.heap.size (fun _ => False) w aw3 W → Calls Try.prog 43 #[.pointer (some ⟨w.heap.size, 0, none⟩), I 2] W fun e w' => e = .returned (.bool false) ∧ W = w') := by
    intro W h
    have := h.live 2
    rwa [aw_f8] at this
  generalize aw0 = T0 at *
  generalize aw1 = T1 at *
  generalize aw2 = T2 at *
  generalize aw3 = T3 at *
  go_enter Try.func31, Try.ntmps31
  go_wp2_with (first
    | ((with_reducible refine H0.out.mono ?_); rintro e w1 ⟨rfl, hs⟩; have K1 := Lib.hid hs; clear hs)
    | ((with_reducible refine (H1.out _ K1.out).mono ?_); rintro e w2 ⟨rfl, hs⟩; have K2 := Lib.hid hs; clear hs)
    | ((with_reducible refine (H2.out _ K2.out).mono ?_); rintro e w3 ⟨rfl, hs⟩; have K3 := Lib.hid hs; clear hs)
    | ((with_reducible refine (H3.out _ K3.out).mono ?_); rintro e w4 ⟨rfl, hs⟩; have K4 := Lib.hid hs; clear hs)
    | ((with_reducible refine (H4.out _ K4.out).mono ?_); rintro e w5 ⟨rfl, hs⟩; have K5 := Lib.hid hs; clear hs)
    | ((with_reducible refine (H5.out _ K5.out).mono ?_); rintro e w' ⟨rfl, rfl⟩)
    | ((with_reducible refine (H6.out _ K5.out).mono ?_); rintro e w' ⟨rfl, rfl⟩)
    | ((with_reducible refine (H7.out _ K5.out).mono ?_); rintro e w' ⟨rfl, rfl⟩))
  go_ret
  exact ⟨rfl, K5.out.mut_.2.below fun k _ h => h⟩
end Go.Proofs.Ytnnjlpkjpbbklaa
