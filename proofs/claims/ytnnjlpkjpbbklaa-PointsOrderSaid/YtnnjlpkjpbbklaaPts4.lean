/-
  What package points computes: JoinText. Conditions: none.
-/
import Derived.Test.YtnnjlpkjpbbklaaPts3
import Derived.Deep.QuietTactic
import Derived.BigQuiet
import Derived.Deep.RegionWith
import Derived.Deep.RegionHeld3
set_option linter.unusedVariables false
set_option linter.unusedSimpArgs false
namespace Go.Proofs.Ytnnjlpkjpbbklaa
open Go.RowKit

def joinTextP (p : Int × Int) (text other length parent index : Int) : Int × Int :=
  if fitB p.1 p.2 [text, other, length, parent, index] = true then
    (if p.1 = other then (text, p.2 + length) else if p = (parent, index) then (text, length) else if p.1 = parent ∧ index < p.2 then (p.1, p.2 - 1) else p)
  else p

set_option maxHeartbeats 1000000 in
theorem joinText_case0 (nd a text other length parent index : Int) (w : World) (hF : fitB nd a [text, other, length, parent, index] = false) :
    Calls Try.prog 29 #[.agg #[.int .i64 nd, .int .i64 a], .int .i64 text, .int .i64 other, .int .i64 length, .int .i64 parent, .int .i64 index] w (Ret (PV (nd, a)) w) := by
  have HF := Lib.hid (fun (w : World) (b : Nat) (hb : b = w.heap.size) => fit_new nd a [text, other, length, parent, index] w _ hF (by simp) 5 rfl #[.int .i64 text, .int .i64 other, .int .i64 length, .int .i64 parent, .int .i64 index] rfl b hb)
  clear hF
  go_enter Try.func29, Try.ntmps29
  go_wp2_with fail
  ((with_reducible refine (HF.out _ _ (by simp)).mono ?_); rintro e w1 ⟨rfl, hb⟩; have hz_w1 := hb.size; (try simp only [World.size_alloc, World.size_setCell, World.size_drew, size_drewN'] at hz_w1); have k0_w1 := fun o => hb.cell (p := ⟨w.heap.size, o, none⟩) (by first | (simp; done) | (simp; omega) | omega); (try simp [go_sem] at k0_w1); have l0_w1 := fun o => hb.frozen (p := ⟨w.heap.size, o, none⟩) (by first | (simp; done) | (simp; omega) | omega); (try simp [go_sem] at l0_w1); have k1_w1 := fun o => hb.cell (p := ⟨w.heap.size + 1, o, none⟩) (by first | (simp; done) | (simp; omega) | omega); (try simp [go_sem] at k1_w1); have l1_w1 := fun o => hb.frozen (p := ⟨w.heap.size + 1, o, none⟩) (by first | (simp; done) | (simp; omega) | omega); (try simp [go_sem] at l1_w1); have hb_w1 : Below w.heap.size w w1 := Below.trans (by exact (by repeat (first | exact Below.refl _ _ | assumption | (refine Below.setCell ?_ (by first | (simp; done) | (simp; omega) | omega) _) | (refine Below.alloc ?_ (by first | (simp; done) | (simp; omega) | omega) _) | (refine Below.drew ?_) | (refine Below.drewN' ?_ _)))) (hb.mono (by first | (simp; done) | (simp; omega) | omega)); obtain ⟨hc_w1, hf_w1⟩ := bcell hb_w1; clear hb)
  go_wp2_with fail
  exact bodyPost_ret (v := PV (nd, a)) (by simp [results, Try.results29, go_sem, *]) rfl ⟨rfl, (by repeat (first | exact Below.refl _ _ | assumption | (refine Below.setCell ?_ (by first | (simp; done) | (simp; omega) | omega) _) | (refine Below.alloc ?_ (by first | (simp; done) | (simp; omega) | omega) _) | (refine Below.drew ?_) | (refine Below.drewN' ?_ _)))⟩

set_option maxHeartbeats 1000000 in
theorem joinText_case1 (nd a text other length parent index : Int) (w : World) (hF : fitB nd a [text, other, length, parent, index] = true) (hE : nd = other) :
    Calls Try.prog 29 #[.agg #[.int .i64 nd, .int .i64 a], .int .i64 text, .int .i64 other, .int .i64 length, .int .i64 parent, .int .i64 index] w (Ret (PV (text, a + length)) w) := by
  subst hE
  have hd : (nd == nd) = true := by simp
  obtain ⟨b1, b2, b3⟩ := fitB_all hF
  have c_length := b3 length (by simp)
  clear b3
  have HF := Lib.hid (fun (w : World) (b : Nat) (hb : b = w.heap.size) => fit_new nd a [text, nd, length, parent, index] w _ hF (by simp) 5 rfl #[.int .i64 text, .int .i64 nd, .int .i64 length, .int .i64 parent, .int .i64 index] rfl b hb)
  clear hF
  go_enter Try.func29, Try.ntmps29
  go_wp2_with fail
  ((with_reducible refine (HF.out _ _ (by simp)).mono ?_); rintro e w1 ⟨rfl, hb⟩; have hz_w1 := hb.size; (try simp only [World.size_alloc, World.size_setCell, World.size_drew, size_drewN'] at hz_w1); have k0_w1 := fun o => hb.cell (p := ⟨w.heap.size, o, none⟩) (by first | (simp; done) | (simp; omega) | omega); (try simp [go_sem] at k0_w1); have l0_w1 := fun o => hb.frozen (p := ⟨w.heap.size, o, none⟩) (by first | (simp; done) | (simp; omega) | omega); (try simp [go_sem] at l0_w1); have k1_w1 := fun o => hb.cell (p := ⟨w.heap.size + 1, o, none⟩) (by first | (simp; done) | (simp; omega) | omega); (try simp [go_sem] at k1_w1); have l1_w1 := fun o => hb.frozen (p := ⟨w.heap.size + 1, o, none⟩) (by first | (simp; done) | (simp; omega) | omega); (try simp [go_sem] at l1_w1); have hb_w1 : Below w.heap.size w w1 := Below.trans (by exact (by repeat (first | exact Below.refl _ _ | assumption | (refine Below.setCell ?_ (by first | (simp; done) | (simp; omega) | omega) _) | (refine Below.alloc ?_ (by first | (simp; done) | (simp; omega) | omega) _) | (refine Below.drew ?_) | (refine Below.drewN' ?_ _)))) (hb.mono (by first | (simp; done) | (simp; omega) | omega)); obtain ⟨hc_w1, hf_w1⟩ := bcell hb_w1; clear hb)
  go_wp2_with fail
  ((with_reducible refine (to_any _ _ _).mono ?_); rintro e w2 ⟨rfl, hb⟩; have hz_w2 := hb.size; (try simp only [World.size_alloc, World.size_setCell, World.size_drew, size_drewN'] at hz_w2); have k0_w2 := fun o => hb.cell (p := ⟨w.heap.size, o, none⟩) (by first | (simp; done) | (simp; omega) | omega); (try simp [go_sem, k0_w1] at k0_w2); have l0_w2 := fun o => hb.frozen (p := ⟨w.heap.size, o, none⟩) (by first | (simp; done) | (simp; omega) | omega); (try simp [go_sem, l0_w1] at l0_w2); have k1_w2 := fun o => hb.cell (p := ⟨w.heap.size + 1, o, none⟩) (by first | (simp; done) | (simp; omega) | omega); (try simp [go_sem, k1_w1] at k1_w2); have l1_w2 := fun o => hb.frozen (p := ⟨w.heap.size + 1, o, none⟩) (by first | (simp; done) | (simp; omega) | omega); (try simp [go_sem, l1_w1] at l1_w2); have hb_w2 : Below w.heap.size w w2 := Below.trans (by exact (by repeat (first | exact Below.refl _ _ | assumption | (refine Below.setCell ?_ (by first | (simp; done) | (simp; omega) | omega) _) | (refine Below.alloc ?_ (by first | (simp; done) | (simp; omega) | omega) _) | (refine Below.drew ?_) | (refine Below.drewN' ?_ _)))) (hb.mono (by first | (simp; done) | (simp; omega) | omega)); obtain ⟨hc_w2, hf_w2⟩ := bcell hb_w2; clear hb)
  go_wp2_with fail
  exact bodyPost_ret (v := PV (text, a + length)) (by simp [results, Try.results29, go_sem, *]) rfl ⟨rfl, (by repeat (first | exact Below.refl _ _ | assumption | (refine Below.setCell ?_ (by first | (simp; done) | (simp; omega) | omega) _) | (refine Below.alloc ?_ (by first | (simp; done) | (simp; omega) | omega) _) | (refine Below.drew ?_) | (refine Below.drewN' ?_ _)))⟩

set_option maxHeartbeats 1000000 in
theorem joinText_case2 (nd a text other length parent index : Int) (w : World) (hF : fitB nd a [text, other, length, parent, index] = true) (hE : ¬ nd = other) (h1 : nd = parent) (h2 : a = index) :
    Calls Try.prog 29 #[.agg #[.int .i64 nd, .int .i64 a], .int .i64 text, .int .i64 other, .int .i64 length, .int .i64 parent, .int .i64 index] w (Ret (PV (text, length)) w) := by
  subst h1 h2
  have hd : (nd == other) = false := by simp [hE]
  clear hE
  obtain ⟨b1, b2, b3⟩ := fitB_all hF
  have c_length := b3 length (by simp)
  clear b3
  have HF := Lib.hid (fun (w : World) (b : Nat) (hb : b = w.heap.size) => fit_new nd a [text, other, length, nd, a] w _ hF (by simp) 5 rfl #[.int .i64 text, .int .i64 other, .int .i64 length, .int .i64 nd, .int .i64 a] rfl b hb)
  clear hF
  go_enter Try.func29, Try.ntmps29
  go_wp2_with fail
  ((with_reducible refine (HF.out _ _ (by simp)).mono ?_); rintro e w1 ⟨rfl, hb⟩; have hz_w1 := hb.size; (try simp only [World.size_alloc, World.size_setCell, World.size_drew, size_drewN'] at hz_w1); have k0_w1 := fun o => hb.cell (p := ⟨w.heap.size, o, none⟩) (by first | (simp; done) | (simp; omega) | omega); (try simp [go_sem] at k0_w1); have l0_w1 := fun o => hb.frozen (p := ⟨w.heap.size, o, none⟩) (by first | (simp; done) | (simp; omega) | omega); (try simp [go_sem] at l0_w1); have k1_w1 := fun o => hb.cell (p := ⟨w.heap.size + 1, o, none⟩) (by first | (simp; done) | (simp; omega) | omega); (try simp [go_sem] at k1_w1); have l1_w1 := fun o => hb.frozen (p := ⟨w.heap.size + 1, o, none⟩) (by first | (simp; done) | (simp; omega) | omega); (try simp [go_sem] at l1_w1); have hb_w1 : Below w.heap.size w w1 := Below.trans (by exact (by repeat (first | exact Below.refl _ _ | assumption | (refine Below.setCell ?_ (by first | (simp; done) | (simp; omega) | omega) _) | (refine Below.alloc ?_ (by first | (simp; done) | (simp; omega) | omega) _) | (refine Below.drew ?_) | (refine Below.drewN' ?_ _)))) (hb.mono (by first | (simp; done) | (simp; omega) | omega)); obtain ⟨hc_w1, hf_w1⟩ := bcell hb_w1; clear hb)
  go_wp2_with fail
  go_region_with ((with_reducible refine (to_any _ _ _).mono ?_); rintro e w2 ⟨rfl, hb⟩; have hz_w2 := hb.size; (try simp only [World.size_alloc, World.size_setCell, World.size_drew, size_drewN'] at hz_w2); have k0_w2 := fun o => hb.cell (p := ⟨w.heap.size, o, none⟩) (by first | (simp; done) | (simp; omega) | omega); (try simp [go_sem, k0_w1] at k0_w2); have l0_w2 := fun o => hb.frozen (p := ⟨w.heap.size, o, none⟩) (by first | (simp; done) | (simp; omega) | omega); (try simp [go_sem, l0_w1] at l0_w2); have k1_w2 := fun o => hb.cell (p := ⟨w.heap.size + 1, o, none⟩) (by first | (simp; done) | (simp; omega) | omega); (try simp [go_sem, k1_w1] at k1_w2); have l1_w2 := fun o => hb.frozen (p := ⟨w.heap.size + 1, o, none⟩) (by first | (simp; done) | (simp; omega) | omega); (try simp [go_sem, l1_w1] at l1_w2); have hb_w2 : Below w.heap.size w w2 := Below.trans (by exact (by repeat (first | exact Below.refl _ _ | assumption | (refine Below.setCell ?_ (by first | (simp; done) | (simp; omega) | omega) _) | (refine Below.alloc ?_ (by first | (simp; done) | (simp; omega) | omega) _) | (refine Below.drew ?_) | (refine Below.drewN' ?_ _)))) (hb.mono (by first | (simp; done) | (simp; omega) | omega)); obtain ⟨hc_w2, hf_w2⟩ := bcell hb_w2; clear hb)
  all_goals
    go_wp2_with fail
    ((with_reducible refine (to_any _ _ _).mono ?_); rintro e w3 ⟨rfl, hb⟩; have hz_w3 := hb.size; (try simp only [World.size_alloc, World.size_setCell, World.size_drew, size_drewN'] at hz_w3); have k0_w3 := fun o => hb.cell (p := ⟨w.heap.size, o, none⟩) (by first | (simp; done) | (simp; omega) | omega); (try simp [go_sem, k0_w2] at k0_w3); have l0_w3 := fun o => hb.frozen (p := ⟨w.heap.size, o, none⟩) (by first | (simp; done) | (simp; omega) | omega); (try simp [go_sem, l0_w2] at l0_w3); have k1_w3 := fun o => hb.cell (p := ⟨w.heap.size + 1, o, none⟩) (by first | (simp; done) | (simp; omega) | omega); (try simp [go_sem, k1_w2] at k1_w3); have l1_w3 := fun o => hb.frozen (p := ⟨w.heap.size + 1, o, none⟩) (by first | (simp; done) | (simp; omega) | omega); (try simp [go_sem, l1_w2] at l1_w3); have hb_w3 : Below w.heap.size w w3 := Below.trans (by exact (by repeat (first | exact Below.refl _ _ | assumption | (refine Below.setCell ?_ (by first | (simp; done) | (simp; omega) | omega) _) | (refine Below.alloc ?_ (by first | (simp; done) | (simp; omega) | omega) _) | (refine Below.drew ?_) | (refine Below.drewN' ?_ _)))) (hb.mono (by first | (simp; done) | (simp; omega) | omega)); obtain ⟨hc_w3, hf_w3⟩ := bcell hb_w3; clear hb)
    go_wp2_with fail
    exact bodyPost_ret (v := PV (text, length)) (by simp [results, Try.results29, go_sem, *]) rfl ⟨rfl, (by repeat (first | exact Below.refl _ _ | assumption | (refine Below.setCell ?_ (by first | (simp; done) | (simp; omega) | omega) _) | (refine Below.alloc ?_ (by first | (simp; done) | (simp; omega) | omega) _) | (refine Below.drew ?_) | (refine Below.drewN' ?_ _)))⟩

set_option maxHeartbeats 1000000 in
theorem joinText_case3 (nd a text other length parent index : Int) (w : World) (hF : fitB nd a [text, other, length, parent, index] = true) (hE : ¬ nd = other) (h1 : ¬ (nd = parent ∧ a = index)) (hA : nd = parent ∧ index < a) :
    Calls Try.prog 29 #[.agg #[.int .i64 nd, .int .i64 a], .int .i64 text, .int .i64 other, .int .i64 length, .int .i64 parent, .int .i64 index] w (Ret (PV (nd, a - 1)) w) := by
  have hd : (nd == other) = false := by simp [hE]
  clear hE
  have HA := Lib.hid (fun (w : World) => above_any nd a parent index w)
  have hr : (nd == parent && decide (index < a)) = true := by simp [hA]
  rw [hr] at HA; clear hr
  have hq : (a == index) = false := by simp; omega
  obtain ⟨h2, _⟩ := hA
  subst h2
  have hq2 : (nd == nd) = true := by simp
  clear h1
  obtain ⟨b1, b2, b3⟩ := fitB_all hF
  have c_length := b3 length (by simp)
  clear b3
  have HF := Lib.hid (fun (w : World) (b : Nat) (hb : b = w.heap.size) => fit_new nd a [text, other, length, nd, index] w _ hF (by simp) 5 rfl #[.int .i64 text, .int .i64 other, .int .i64 length, .int .i64 nd, .int .i64 index] rfl b hb)
  clear hF
  go_enter Try.func29, Try.ntmps29
  go_wp2_with fail
  ((with_reducible refine (HF.out _ _ (by simp)).mono ?_); rintro e w1 ⟨rfl, hb⟩; have hz_w1 := hb.size; (try simp only [World.size_alloc, World.size_setCell, World.size_drew, size_drewN'] at hz_w1); have k0_w1 := fun o => hb.cell (p := ⟨w.heap.size, o, none⟩) (by first | (simp; done) | (simp; omega) | omega); (try simp [go_sem] at k0_w1); have l0_w1 := fun o => hb.frozen (p := ⟨w.heap.size, o, none⟩) (by first | (simp; done) | (simp; omega) | omega); (try simp [go_sem] at l0_w1); have k1_w1 := fun o => hb.cell (p := ⟨w.heap.size + 1, o, none⟩) (by first | (simp; done) | (simp; omega) | omega); (try simp [go_sem] at k1_w1); have l1_w1 := fun o => hb.frozen (p := ⟨w.heap.size + 1, o, none⟩) (by first | (simp; done) | (simp; omega) | omega); (try simp [go_sem] at l1_w1); have hb_w1 : Below w.heap.size w w1 := Below.trans (by exact (by repeat (first | exact Below.refl _ _ | assumption | (refine Below.setCell ?_ (by first | (simp; done) | (simp; omega) | omega) _) | (refine Below.alloc ?_ (by first | (simp; done) | (simp; omega) | omega) _) | (refine Below.drew ?_) | (refine Below.drewN' ?_ _)))) (hb.mono (by first | (simp; done) | (simp; omega) | omega)); obtain ⟨hc_w1, hf_w1⟩ := bcell hb_w1; clear hb)
  go_wp2_with fail
  go_region_with ((with_reducible refine (to_any _ _ _).mono ?_); rintro e w2 ⟨rfl, hb⟩; have hz_w2 := hb.size; (try simp only [World.size_alloc, World.size_setCell, World.size_drew, size_drewN'] at hz_w2); have k0_w2 := fun o => hb.cell (p := ⟨w.heap.size, o, none⟩) (by first | (simp; done) | (simp; omega) | omega); (try simp [go_sem, k0_w1] at k0_w2); have l0_w2 := fun o => hb.frozen (p := ⟨w.heap.size, o, none⟩) (by first | (simp; done) | (simp; omega) | omega); (try simp [go_sem, l0_w1] at l0_w2); have k1_w2 := fun o => hb.cell (p := ⟨w.heap.size + 1, o, none⟩) (by first | (simp; done) | (simp; omega) | omega); (try simp [go_sem, k1_w1] at k1_w2); have l1_w2 := fun o => hb.frozen (p := ⟨w.heap.size + 1, o, none⟩) (by first | (simp; done) | (simp; omega) | omega); (try simp [go_sem, l1_w1] at l1_w2); have hb_w2 : Below w.heap.size w w2 := Below.trans (by exact (by repeat (first | exact Below.refl _ _ | assumption | (refine Below.setCell ?_ (by first | (simp; done) | (simp; omega) | omega) _) | (refine Below.alloc ?_ (by first | (simp; done) | (simp; omega) | omega) _) | (refine Below.drew ?_) | (refine Below.drewN' ?_ _)))) (hb.mono (by first | (simp; done) | (simp; omega) | omega)); obtain ⟨hc_w2, hf_w2⟩ := bcell hb_w2; clear hb)
  all_goals
    go_wp2_with fail
    ((with_reducible refine (HA.out _).mono ?_); rintro e w3 ⟨rfl, hb⟩; have hz_w3 := hb.size; (try simp only [World.size_alloc, World.size_setCell, World.size_drew, size_drewN'] at hz_w3); have k0_w3 := fun o => hb.cell (p := ⟨w.heap.size, o, none⟩) (by first | (simp; done) | (simp; omega) | omega); (try simp [go_sem, k0_w2] at k0_w3); have l0_w3 := fun o => hb.frozen (p := ⟨w.heap.size, o, none⟩) (by first | (simp; done) | (simp; omega) | omega); (try simp [go_sem, l0_w2] at l0_w3); have k1_w3 := fun o => hb.cell (p := ⟨w.heap.size + 1, o, none⟩) (by first | (simp; done) | (simp; omega) | omega); (try simp [go_sem, k1_w2] at k1_w3); have l1_w3 := fun o => hb.frozen (p := ⟨w.heap.size + 1, o, none⟩) (by first | (simp; done) | (simp; omega) | omega); (try simp [go_sem, l1_w2] at l1_w3); have hb_w3 : Below w.heap.size w w3 := Below.trans (by exact (by repeat (first | exact Below.refl _ _ | assumption | (refine Below.setCell ?_ (by first | (simp; done) | (simp; omega) | omega) _) | (refine Below.alloc ?_ (by first | (simp; done) | (simp; omega) | omega) _) | (refine Below.drew ?_) | (refine Below.drewN' ?_ _)))) (hb.mono (by first | (simp; done) | (simp; omega) | omega)); obtain ⟨hc_w3, hf_w3⟩ := bcell hb_w3; clear hb)
    go_wp2_with fail
    exact bodyPost_ret (v := PV (nd, a - 1)) (by simp [results, Try.results29, go_sem, *]) rfl ⟨rfl, (by repeat (first | exact Below.refl _ _ | assumption | (refine Below.setCell ?_ (by first | (simp; done) | (simp; omega) | omega) _) | (refine Below.alloc ?_ (by first | (simp; done) | (simp; omega) | omega) _) | (refine Below.drew ?_) | (refine Below.drewN' ?_ _)))⟩

set_option maxHeartbeats 1000000 in
theorem joinText_case4a (nd a text other length parent index : Int) (w : World) (hF : fitB nd a [text, other, length, parent, index] = true) (hE : ¬ nd = other) (hA : ¬ nd = parent) :
    Calls Try.prog 29 #[.agg #[.int .i64 nd, .int .i64 a], .int .i64 text, .int .i64 other, .int .i64 length, .int .i64 parent, .int .i64 index] w (Ret (PV (nd, a)) w) := by
  have hd : (nd == other) = false := by simp [hE]
  clear hE
  have HA := Lib.hid (fun (w : World) => above_any nd a parent index w)
  have hr : (nd == parent && decide (index < a)) = false := by simp [hA]
  rw [hr] at HA; clear hr
  have hq : (nd == parent) = false := by simp [hA]
  clear hA
  obtain ⟨b1, b2, b3⟩ := fitB_all hF
  have c_length := b3 length (by simp)
  clear b3
  have HF := Lib.hid (fun (w : World) (b : Nat) (hb : b = w.heap.size) => fit_new nd a [text, other, length, parent, index] w _ hF (by simp) 5 rfl #[.int .i64 text, .int .i64 other, .int .i64 length, .int .i64 parent, .int .i64 index] rfl b hb)
  clear hF
  go_enter Try.func29, Try.ntmps29
  go_wp2_with fail
  ((with_reducible refine (HF.out _ _ (by simp)).mono ?_); rintro e w1 ⟨rfl, hb⟩; have hz_w1 := hb.size; (try simp only [World.size_alloc, World.size_setCell, World.size_drew, size_drewN'] at hz_w1); have k0_w1 := fun o => hb.cell (p := ⟨w.heap.size, o, none⟩) (by first | (simp; done) | (simp; omega) | omega); (try simp [go_sem] at k0_w1); have l0_w1 := fun o => hb.frozen (p := ⟨w.heap.size, o, none⟩) (by first | (simp; done) | (simp; omega) | omega); (try simp [go_sem] at l0_w1); have k1_w1 := fun o => hb.cell (p := ⟨w.heap.size + 1, o, none⟩) (by first | (simp; done) | (simp; omega) | omega); (try simp [go_sem] at k1_w1); have l1_w1 := fun o => hb.frozen (p := ⟨w.heap.size + 1, o, none⟩) (by first | (simp; done) | (simp; omega) | omega); (try simp [go_sem] at l1_w1); have hb_w1 : Below w.heap.size w w1 := Below.trans (by exact (by repeat (first | exact Below.refl _ _ | assumption | (refine Below.setCell ?_ (by first | (simp; done) | (simp; omega) | omega) _) | (refine Below.alloc ?_ (by first | (simp; done) | (simp; omega) | omega) _) | (refine Below.drew ?_) | (refine Below.drewN' ?_ _)))) (hb.mono (by first | (simp; done) | (simp; omega) | omega)); obtain ⟨hc_w1, hf_w1⟩ := bcell hb_w1; clear hb)
  go_wp2_with fail
  go_region_with ((with_reducible refine (to_any _ _ _).mono ?_); rintro e w2 ⟨rfl, hb⟩; have hz_w2 := hb.size; (try simp only [World.size_alloc, World.size_setCell, World.size_drew, size_drewN'] at hz_w2); have k0_w2 := fun o => hb.cell (p := ⟨w.heap.size, o, none⟩) (by first | (simp; done) | (simp; omega) | omega); (try simp [go_sem, k0_w1] at k0_w2); have l0_w2 := fun o => hb.frozen (p := ⟨w.heap.size, o, none⟩) (by first | (simp; done) | (simp; omega) | omega); (try simp [go_sem, l0_w1] at l0_w2); have k1_w2 := fun o => hb.cell (p := ⟨w.heap.size + 1, o, none⟩) (by first | (simp; done) | (simp; omega) | omega); (try simp [go_sem, k1_w1] at k1_w2); have l1_w2 := fun o => hb.frozen (p := ⟨w.heap.size + 1, o, none⟩) (by first | (simp; done) | (simp; omega) | omega); (try simp [go_sem, l1_w1] at l1_w2); have hb_w2 : Below w.heap.size w w2 := Below.trans (by exact (by repeat (first | exact Below.refl _ _ | assumption | (refine Below.setCell ?_ (by first | (simp; done) | (simp; omega) | omega) _) | (refine Below.alloc ?_ (by first | (simp; done) | (simp; omega) | omega) _) | (refine Below.drew ?_) | (refine Below.drewN' ?_ _)))) (hb.mono (by first | (simp; done) | (simp; omega) | omega)); obtain ⟨hc_w2, hf_w2⟩ := bcell hb_w2; clear hb)
  all_goals
    go_wp2_with fail
    ((with_reducible refine (HA.out _).mono ?_); rintro e w3 ⟨rfl, hb⟩; have hz_w3 := hb.size; (try simp only [World.size_alloc, World.size_setCell, World.size_drew, size_drewN'] at hz_w3); have k0_w3 := fun o => hb.cell (p := ⟨w.heap.size, o, none⟩) (by first | (simp; done) | (simp; omega) | omega); (try simp [go_sem, k0_w2] at k0_w3); have l0_w3 := fun o => hb.frozen (p := ⟨w.heap.size, o, none⟩) (by first | (simp; done) | (simp; omega) | omega); (try simp [go_sem, l0_w2] at l0_w3); have k1_w3 := fun o => hb.cell (p := ⟨w.heap.size + 1, o, none⟩) (by first | (simp; done) | (simp; omega) | omega); (try simp [go_sem, k1_w2] at k1_w3); have l1_w3 := fun o => hb.frozen (p := ⟨w.heap.size + 1, o, none⟩) (by first | (simp; done) | (simp; omega) | omega); (try simp [go_sem, l1_w2] at l1_w3); have hb_w3 : Below w.heap.size w w3 := Below.trans (by exact (by repeat (first | exact Below.refl _ _ | assumption | (refine Below.setCell ?_ (by first | (simp; done) | (simp; omega) | omega) _) | (refine Below.alloc ?_ (by first | (simp; done) | (simp; omega) | omega) _) | (refine Below.drew ?_) | (refine Below.drewN' ?_ _)))) (hb.mono (by first | (simp; done) | (simp; omega) | omega)); obtain ⟨hc_w3, hf_w3⟩ := bcell hb_w3; clear hb)
    go_wp2_with fail
    exact bodyPost_ret (v := PV (nd, a)) (by simp [results, Try.results29, go_sem, *]) rfl ⟨rfl, (by repeat (first | exact Below.refl _ _ | assumption | (refine Below.setCell ?_ (by first | (simp; done) | (simp; omega) | omega) _) | (refine Below.alloc ?_ (by first | (simp; done) | (simp; omega) | omega) _) | (refine Below.drew ?_) | (refine Below.drewN' ?_ _)))⟩

set_option maxHeartbeats 1000000 in
theorem joinText_case4b (nd a text other length parent index : Int) (w : World) (hF : fitB nd a [text, other, length, parent, index] = true) (hE : ¬ nd = other) (h1 : nd = parent) (hA : a < index) :
    Calls Try.prog 29 #[.agg #[.int .i64 nd, .int .i64 a], .int .i64 text, .int .i64 other, .int .i64 length, .int .i64 parent, .int .i64 index] w (Ret (PV (nd, a)) w) := by
  have hd : (nd == other) = false := by simp [hE]
  clear hE
  have HA := Lib.hid (fun (w : World) => above_any nd a parent index w)
  have hr : (nd == parent && decide (index < a)) = false := by simp; omega
  rw [hr] at HA; clear hr
  have hq : (a == index) = false := by simp; omega
  subst h1
  have hq2 : (nd == nd) = true := by simp
  clear hA
  obtain ⟨b1, b2, b3⟩ := fitB_all hF
  have c_length := b3 length (by simp)
  clear b3
  have HF := Lib.hid (fun (w : World) (b : Nat) (hb : b = w.heap.size) => fit_new nd a [text, other, length, nd, index] w _ hF (by simp) 5 rfl #[.int .i64 text, .int .i64 other, .int .i64 length, .int .i64 nd, .int .i64 index] rfl b hb)
  clear hF
  go_enter Try.func29, Try.ntmps29
  go_wp2_with fail
  ((with_reducible refine (HF.out _ _ (by simp)).mono ?_); rintro e w1 ⟨rfl, hb⟩; have hz_w1 := hb.size; (try simp only [World.size_alloc, World.size_setCell, World.size_drew, size_drewN'] at hz_w1); have k0_w1 := fun o => hb.cell (p := ⟨w.heap.size, o, none⟩) (by first | (simp; done) | (simp; omega) | omega); (try simp [go_sem] at k0_w1); have l0_w1 := fun o => hb.frozen (p := ⟨w.heap.size, o, none⟩) (by first | (simp; done) | (simp; omega) | omega); (try simp [go_sem] at l0_w1); have k1_w1 := fun o => hb.cell (p := ⟨w.heap.size + 1, o, none⟩) (by first | (simp; done) | (simp; omega) | omega); (try simp [go_sem] at k1_w1); have l1_w1 := fun o => hb.frozen (p := ⟨w.heap.size + 1, o, none⟩) (by first | (simp; done) | (simp; omega) | omega); (try simp [go_sem] at l1_w1); have hb_w1 : Below w.heap.size w w1 := Below.trans (by exact (by repeat (first | exact Below.refl _ _ | assumption | (refine Below.setCell ?_ (by first | (simp; done) | (simp; omega) | omega) _) | (refine Below.alloc ?_ (by first | (simp; done) | (simp; omega) | omega) _) | (refine Below.drew ?_) | (refine Below.drewN' ?_ _)))) (hb.mono (by first | (simp; done) | (simp; omega) | omega)); obtain ⟨hc_w1, hf_w1⟩ := bcell hb_w1; clear hb)
  go_wp2_with fail
  go_region_with ((with_reducible refine (to_any _ _ _).mono ?_); rintro e w2 ⟨rfl, hb⟩; have hz_w2 := hb.size; (try simp only [World.size_alloc, World.size_setCell, World.size_drew, size_drewN'] at hz_w2); have k0_w2 := fun o => hb.cell (p := ⟨w.heap.size, o, none⟩) (by first | (simp; done) | (simp; omega) | omega); (try simp [go_sem, k0_w1] at k0_w2); have l0_w2 := fun o => hb.frozen (p := ⟨w.heap.size, o, none⟩) (by first | (simp; done) | (simp; omega) | omega); (try simp [go_sem, l0_w1] at l0_w2); have k1_w2 := fun o => hb.cell (p := ⟨w.heap.size + 1, o, none⟩) (by first | (simp; done) | (simp; omega) | omega); (try simp [go_sem, k1_w1] at k1_w2); have l1_w2 := fun o => hb.frozen (p := ⟨w.heap.size + 1, o, none⟩) (by first | (simp; done) | (simp; omega) | omega); (try simp [go_sem, l1_w1] at l1_w2); have hb_w2 : Below w.heap.size w w2 := Below.trans (by exact (by repeat (first | exact Below.refl _ _ | assumption | (refine Below.setCell ?_ (by first | (simp; done) | (simp; omega) | omega) _) | (refine Below.alloc ?_ (by first | (simp; done) | (simp; omega) | omega) _) | (refine Below.drew ?_) | (refine Below.drewN' ?_ _)))) (hb.mono (by first | (simp; done) | (simp; omega) | omega)); obtain ⟨hc_w2, hf_w2⟩ := bcell hb_w2; clear hb)
  all_goals
    go_wp2_with fail
    ((with_reducible refine (HA.out _).mono ?_); rintro e w3 ⟨rfl, hb⟩; have hz_w3 := hb.size; (try simp only [World.size_alloc, World.size_setCell, World.size_drew, size_drewN'] at hz_w3); have k0_w3 := fun o => hb.cell (p := ⟨w.heap.size, o, none⟩) (by first | (simp; done) | (simp; omega) | omega); (try simp [go_sem, k0_w2] at k0_w3); have l0_w3 := fun o => hb.frozen (p := ⟨w.heap.size, o, none⟩) (by first | (simp; done) | (simp; omega) | omega); (try simp [go_sem, l0_w2] at l0_w3); have k1_w3 := fun o => hb.cell (p := ⟨w.heap.size + 1, o, none⟩) (by first | (simp; done) | (simp; omega) | omega); (try simp [go_sem, k1_w2] at k1_w3); have l1_w3 := fun o => hb.frozen (p := ⟨w.heap.size + 1, o, none⟩) (by first | (simp; done) | (simp; omega) | omega); (try simp [go_sem, l1_w2] at l1_w3); have hb_w3 : Below w.heap.size w w3 := Below.trans (by exact (by repeat (first | exact Below.refl _ _ | assumption | (refine Below.setCell ?_ (by first | (simp; done) | (simp; omega) | omega) _) | (refine Below.alloc ?_ (by first | (simp; done) | (simp; omega) | omega) _) | (refine Below.drew ?_) | (refine Below.drewN' ?_ _)))) (hb.mono (by first | (simp; done) | (simp; omega) | omega)); obtain ⟨hc_w3, hf_w3⟩ := bcell hb_w3; clear hb)
    go_wp2_with fail
    exact bodyPost_ret (v := PV (nd, a)) (by simp [results, Try.results29, go_sem, *]) rfl ⟨rfl, (by repeat (first | exact Below.refl _ _ | assumption | (refine Below.setCell ?_ (by first | (simp; done) | (simp; omega) | omega) _) | (refine Below.alloc ?_ (by first | (simp; done) | (simp; omega) | omega) _) | (refine Below.drew ?_) | (refine Below.drewN' ?_ _)))⟩

theorem joinText_any (nd a text other length parent index : Int) (w : World) : Calls Try.prog 29 #[.agg #[.int .i64 nd, .int .i64 a], .int .i64 text, .int .i64 other, .int .i64 length, .int .i64 parent, .int .i64 index] w (Ret (PV (joinTextP (nd, a) text other length parent index)) w) := by
  unfold joinTextP
  cases hF : fitB nd a [text, other, length, parent, index]
  · rw [if_neg (by simp)]
    exact joinText_case0 nd a text other length parent index w hF
  · rw [if_pos rfl]
    by_cases hE : nd = other
    · rw [if_pos hE]
      exact joinText_case1 nd a text other length parent index w hF hE
    · rw [if_neg hE]
      by_cases h1 : nd = parent ∧ a = index
      · rw [if_pos (by rw [h1.1, h1.2])]
        exact joinText_case2 nd a text other length parent index w hF hE h1.1 h1.2
      · rw [if_neg (by intro h; injection h with h2 h3; exact h1 ⟨h2, h3⟩)]
        by_cases hA : nd = parent ∧ index < a
        · rw [if_pos hA]
          exact joinText_case3 nd a text other length parent index w hF hE h1 hA
        · rw [if_neg hA]
          by_cases h2 : nd = parent
          · exact joinText_case4b nd a text other length parent index w hF hE h2 (by omega)
          · exact joinText_case4a nd a text other length parent index w hF hE h2
end Go.Proofs.Ytnnjlpkjpbbklaa
