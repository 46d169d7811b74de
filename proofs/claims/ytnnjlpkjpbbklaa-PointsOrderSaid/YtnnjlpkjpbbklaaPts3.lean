/-
  What package points computes: cut, SplitText, Split, JoinText, Wrapped, Unwrapped, Moved. Conditions: none (cut: numbers such as fit lets through).
-/
import Derived.Test.YtnnjlpkjpbbklaaPts2
import Derived.Deep.QuietTactic
import Derived.BigQuiet
import Derived.Deep.RegionWith
set_option linter.unusedVariables false
set_option linter.unusedSimpArgs false
namespace Go.Proofs.Ytnnjlpkjpbbklaa
open Go.RowKit

def cutP (p : Int × Int) (id k fresh parent index : Int) : Int × Int :=
  if p.1 = id ∧ k < p.2 then (fresh, p.2 - k) else if 0 ≤ parent ∧ p.1 = parent ∧ index < p.2 then (p.1, p.2 + 1) else p

set_option maxHeartbeats 1000000 in
theorem cut_case0 (nd a id k fresh parent index : Int) (w : World) (b1 : -1 ≤ nd ∧ nd ≤ 1073741824) (b2 : -1 ≤ a ∧ a ≤ 1073741824) (b3 : -1 ≤ k ∧ k ≤ 1073741824) (hA1 : nd = id ∧ k < a) :
    Calls Try.prog 111 #[.agg #[.int .i64 nd, .int .i64 a], .int .i64 id, .int .i64 k, .int .i64 fresh, .int .i64 parent, .int .i64 index] w (Ret (PV (cutP (nd, a) id k fresh parent index)) w) := by
  have e : cutP (nd, a) id k fresh parent index = (fresh, a - k) := by simp only [cutP]; rw [if_pos hA1]
  rw [e]; clear e
  have HA1 := Lib.hid (fun (w : World) => above_any nd a id k w)
  have hr1 : (nd == id && decide (k < a)) = true := by simp [hA1]
  rw [hr1] at HA1; clear hr1 hA1
  go_enter Try.func111, Try.ntmps111
  go_wp2_with fail
  ((with_reducible refine (HA1.out _).mono ?_); rintro e w1 ⟨rfl, hb⟩; have hz_w1 := hb.size; (try simp only [World.size_alloc, World.size_setCell, World.size_drew, size_drewN'] at hz_w1); have k0_w1 := fun o => hb.cell (p := ⟨w.heap.size, o, none⟩) (by first | (simp; done) | (simp; omega) | omega); (try simp [go_sem] at k0_w1); have l0_w1 := fun o => hb.frozen (p := ⟨w.heap.size, o, none⟩) (by first | (simp; done) | (simp; omega) | omega); (try simp [go_sem] at l0_w1); have k1_w1 := fun o => hb.cell (p := ⟨w.heap.size + 1, o, none⟩) (by first | (simp; done) | (simp; omega) | omega); (try simp [go_sem] at k1_w1); have l1_w1 := fun o => hb.frozen (p := ⟨w.heap.size + 1, o, none⟩) (by first | (simp; done) | (simp; omega) | omega); (try simp [go_sem] at l1_w1); have k2_w1 := fun o => hb.cell (p := ⟨w.heap.size + 1 + 1, o, none⟩) (by first | (simp; done) | (simp; omega) | omega); (try simp [go_sem] at k2_w1); have l2_w1 := fun o => hb.frozen (p := ⟨w.heap.size + 1 + 1, o, none⟩) (by first | (simp; done) | (simp; omega) | omega); (try simp [go_sem] at l2_w1); have hb_w1 : Below w.heap.size w w1 := Below.trans (by exact (by repeat (first | exact Below.refl _ _ | assumption | (refine Below.setCell ?_ (by first | (simp; done) | (simp; omega) | omega) _) | (refine Below.alloc ?_ (by first | (simp; done) | (simp; omega) | omega) _) | (refine Below.drew ?_) | (refine Below.drewN' ?_ _)))) (hb.mono (by first | (simp; done) | (simp; omega) | omega)); obtain ⟨hc_w1, hf_w1⟩ := bcell hb_w1; clear hb)
  go_wp2_with fail
  ((with_reducible refine (to_any _ _ _).mono ?_); rintro e w2 ⟨rfl, hb⟩; have hz_w2 := hb.size; (try simp only [World.size_alloc, World.size_setCell, World.size_drew, size_drewN'] at hz_w2); have k0_w2 := fun o => hb.cell (p := ⟨w.heap.size, o, none⟩) (by first | (simp; done) | (simp; omega) | omega); (try simp [go_sem, k0_w1] at k0_w2); have l0_w2 := fun o => hb.frozen (p := ⟨w.heap.size, o, none⟩) (by first | (simp; done) | (simp; omega) | omega); (try simp [go_sem, l0_w1] at l0_w2); have k1_w2 := fun o => hb.cell (p := ⟨w.heap.size + 1, o, none⟩) (by first | (simp; done) | (simp; omega) | omega); (try simp [go_sem, k1_w1] at k1_w2); have l1_w2 := fun o => hb.frozen (p := ⟨w.heap.size + 1, o, none⟩) (by first | (simp; done) | (simp; omega) | omega); (try simp [go_sem, l1_w1] at l1_w2); have k2_w2 := fun o => hb.cell (p := ⟨w.heap.size + 1 + 1, o, none⟩) (by first | (simp; done) | (simp; omega) | omega); (try simp [go_sem, k2_w1] at k2_w2); have l2_w2 := fun o => hb.frozen (p := ⟨w.heap.size + 1 + 1, o, none⟩) (by first | (simp; done) | (simp; omega) | omega); (try simp [go_sem, l2_w1] at l2_w2); have hb_w2 : Below w.heap.size w w2 := Below.trans (by exact (by repeat (first | exact Below.refl _ _ | assumption | (refine Below.setCell ?_ (by first | (simp; done) | (simp; omega) | omega) _) | (refine Below.alloc ?_ (by first | (simp; done) | (simp; omega) | omega) _) | (refine Below.drew ?_) | (refine Below.drewN' ?_ _)))) (hb.mono (by first | (simp; done) | (simp; omega) | omega)); obtain ⟨hc_w2, hf_w2⟩ := bcell hb_w2; clear hb)
  go_wp2_with fail
  exact bodyPost_ret (v := PV (fresh, a - k)) (by simp [results, Try.results111, go_sem, *]) rfl ⟨rfl, (by repeat (first | exact Below.refl _ _ | assumption | (refine Below.setCell ?_ (by first | (simp; done) | (simp; omega) | omega) _) | (refine Below.alloc ?_ (by first | (simp; done) | (simp; omega) | omega) _) | (refine Below.drew ?_) | (refine Below.drewN' ?_ _)))⟩

set_option maxHeartbeats 1000000 in
theorem cut_case1 (nd a id k fresh parent index : Int) (w : World) (b1 : -1 ≤ nd ∧ nd ≤ 1073741824) (b2 : -1 ≤ a ∧ a ≤ 1073741824) (b3 : -1 ≤ k ∧ k ≤ 1073741824) (hA1 : ¬ (nd = id ∧ k < a)) (hP : parent < 0) :
    Calls Try.prog 111 #[.agg #[.int .i64 nd, .int .i64 a], .int .i64 id, .int .i64 k, .int .i64 fresh, .int .i64 parent, .int .i64 index] w (Ret (PV (cutP (nd, a) id k fresh parent index)) w) := by
  have e : cutP (nd, a) id k fresh parent index = (nd, a) := by simp only [cutP]; rw [if_neg hA1, if_neg (by omega)]
  rw [e]; clear e
  have hd : decide (0 ≤ parent) = false := by simp; omega
  have HA1 := Lib.hid (fun (w : World) => above_any nd a id k w)
  have hr1 : (nd == id && decide (k < a)) = false := by simp; omega
  rw [hr1] at HA1; clear hr1 hA1
  go_enter Try.func111, Try.ntmps111
  go_wp2_with fail
  ((with_reducible refine (HA1.out _).mono ?_); rintro e w1 ⟨rfl, hb⟩; have hz_w1 := hb.size; (try simp only [World.size_alloc, World.size_setCell, World.size_drew, size_drewN'] at hz_w1); have k0_w1 := fun o => hb.cell (p := ⟨w.heap.size, o, none⟩) (by first | (simp; done) | (simp; omega) | omega); (try simp [go_sem] at k0_w1); have l0_w1 := fun o => hb.frozen (p := ⟨w.heap.size, o, none⟩) (by first | (simp; done) | (simp; omega) | omega); (try simp [go_sem] at l0_w1); have k1_w1 := fun o => hb.cell (p := ⟨w.heap.size + 1, o, none⟩) (by first | (simp; done) | (simp; omega) | omega); (try simp [go_sem] at k1_w1); have l1_w1 := fun o => hb.frozen (p := ⟨w.heap.size + 1, o, none⟩) (by first | (simp; done) | (simp; omega) | omega); (try simp [go_sem] at l1_w1); have k2_w1 := fun o => hb.cell (p := ⟨w.heap.size + 1 + 1, o, none⟩) (by first | (simp; done) | (simp; omega) | omega); (try simp [go_sem] at k2_w1); have l2_w1 := fun o => hb.frozen (p := ⟨w.heap.size + 1 + 1, o, none⟩) (by first | (simp; done) | (simp; omega) | omega); (try simp [go_sem] at l2_w1); have hb_w1 : Below w.heap.size w w1 := Below.trans (by exact (by repeat (first | exact Below.refl _ _ | assumption | (refine Below.setCell ?_ (by first | (simp; done) | (simp; omega) | omega) _) | (refine Below.alloc ?_ (by first | (simp; done) | (simp; omega) | omega) _) | (refine Below.drew ?_) | (refine Below.drewN' ?_ _)))) (hb.mono (by first | (simp; done) | (simp; omega) | omega)); obtain ⟨hc_w1, hf_w1⟩ := bcell hb_w1; clear hb)
  go_wp2_with fail
  exact bodyPost_ret (v := PV (nd, a)) (by simp [results, Try.results111, go_sem, *]) rfl ⟨rfl, (by repeat (first | exact Below.refl _ _ | assumption | (refine Below.setCell ?_ (by first | (simp; done) | (simp; omega) | omega) _) | (refine Below.alloc ?_ (by first | (simp; done) | (simp; omega) | omega) _) | (refine Below.drew ?_) | (refine Below.drewN' ?_ _)))⟩

set_option maxHeartbeats 1000000 in
theorem cut_case2 (nd a id k fresh parent index : Int) (w : World) (b1 : -1 ≤ nd ∧ nd ≤ 1073741824) (b2 : -1 ≤ a ∧ a ≤ 1073741824) (b3 : -1 ≤ k ∧ k ≤ 1073741824) (hA1 : ¬ (nd = id ∧ k < a)) (hP : 0 ≤ parent) (hA2 : nd = parent ∧ index < a) :
    Calls Try.prog 111 #[.agg #[.int .i64 nd, .int .i64 a], .int .i64 id, .int .i64 k, .int .i64 fresh, .int .i64 parent, .int .i64 index] w (Ret (PV (cutP (nd, a) id k fresh parent index)) w) := by
  have e : cutP (nd, a) id k fresh parent index = (nd, a + 1) := by simp only [cutP]; rw [if_neg hA1, if_pos ⟨hP, hA2⟩]
  rw [e]; clear e
  have hd : decide (0 ≤ parent) = true := by simp; omega
  have HA1 := Lib.hid (fun (w : World) => above_any nd a id k w)
  have hr1 : (nd == id && decide (k < a)) = false := by simp; omega
  rw [hr1] at HA1; clear hr1 hA1
  have HA2 := Lib.hid (fun (w : World) => above_any nd a parent index w)
  have hr2 : (nd == parent && decide (index < a)) = true := by simp [hA2]
  rw [hr2] at HA2; clear hr2 hA2
  go_enter Try.func111, Try.ntmps111
  go_wp2_with fail
  ((with_reducible refine (HA1.out _).mono ?_); rintro e w1 ⟨rfl, hb⟩; have hz_w1 := hb.size; (try simp only [World.size_alloc, World.size_setCell, World.size_drew, size_drewN'] at hz_w1); have k0_w1 := fun o => hb.cell (p := ⟨w.heap.size, o, none⟩) (by first | (simp; done) | (simp; omega) | omega); (try simp [go_sem] at k0_w1); have l0_w1 := fun o => hb.frozen (p := ⟨w.heap.size, o, none⟩) (by first | (simp; done) | (simp; omega) | omega); (try simp [go_sem] at l0_w1); have k1_w1 := fun o => hb.cell (p := ⟨w.heap.size + 1, o, none⟩) (by first | (simp; done) | (simp; omega) | omega); (try simp [go_sem] at k1_w1); have l1_w1 := fun o => hb.frozen (p := ⟨w.heap.size + 1, o, none⟩) (by first | (simp; done) | (simp; omega) | omega); (try simp [go_sem] at l1_w1); have k2_w1 := fun o => hb.cell (p := ⟨w.heap.size + 1 + 1, o, none⟩) (by first | (simp; done) | (simp; omega) | omega); (try simp [go_sem] at k2_w1); have l2_w1 := fun o => hb.frozen (p := ⟨w.heap.size + 1 + 1, o, none⟩) (by first | (simp; done) | (simp; omega) | omega); (try simp [go_sem] at l2_w1); have hb_w1 : Below w.heap.size w w1 := Below.trans (by exact (by repeat (first | exact Below.refl _ _ | assumption | (refine Below.setCell ?_ (by first | (simp; done) | (simp; omega) | omega) _) | (refine Below.alloc ?_ (by first | (simp; done) | (simp; omega) | omega) _) | (refine Below.drew ?_) | (refine Below.drewN' ?_ _)))) (hb.mono (by first | (simp; done) | (simp; omega) | omega)); obtain ⟨hc_w1, hf_w1⟩ := bcell hb_w1; clear hb)
  go_wp2_with fail
  ((with_reducible refine (HA2.out _).mono ?_); rintro e w2 ⟨rfl, hb⟩; have hz_w2 := hb.size; (try simp only [World.size_alloc, World.size_setCell, World.size_drew, size_drewN'] at hz_w2); have k0_w2 := fun o => hb.cell (p := ⟨w.heap.size, o, none⟩) (by first | (simp; done) | (simp; omega) | omega); (try simp [go_sem, k0_w1] at k0_w2); have l0_w2 := fun o => hb.frozen (p := ⟨w.heap.size, o, none⟩) (by first | (simp; done) | (simp; omega) | omega); (try simp [go_sem, l0_w1] at l0_w2); have k1_w2 := fun o => hb.cell (p := ⟨w.heap.size + 1, o, none⟩) (by first | (simp; done) | (simp; omega) | omega); (try simp [go_sem, k1_w1] at k1_w2); have l1_w2 := fun o => hb.frozen (p := ⟨w.heap.size + 1, o, none⟩) (by first | (simp; done) | (simp; omega) | omega); (try simp [go_sem, l1_w1] at l1_w2); have k2_w2 := fun o => hb.cell (p := ⟨w.heap.size + 1 + 1, o, none⟩) (by first | (simp; done) | (simp; omega) | omega); (try simp [go_sem, k2_w1] at k2_w2); have l2_w2 := fun o => hb.frozen (p := ⟨w.heap.size + 1 + 1, o, none⟩) (by first | (simp; done) | (simp; omega) | omega); (try simp [go_sem, l2_w1] at l2_w2); have hb_w2 : Below w.heap.size w w2 := Below.trans (by exact (by repeat (first | exact Below.refl _ _ | assumption | (refine Below.setCell ?_ (by first | (simp; done) | (simp; omega) | omega) _) | (refine Below.alloc ?_ (by first | (simp; done) | (simp; omega) | omega) _) | (refine Below.drew ?_) | (refine Below.drewN' ?_ _)))) (hb.mono (by first | (simp; done) | (simp; omega) | omega)); obtain ⟨hc_w2, hf_w2⟩ := bcell hb_w2; clear hb)
  go_wp2_with fail
  exact bodyPost_ret (v := PV (nd, a + 1)) (by simp [results, Try.results111, go_sem, *]) rfl ⟨rfl, (by repeat (first | exact Below.refl _ _ | assumption | (refine Below.setCell ?_ (by first | (simp; done) | (simp; omega) | omega) _) | (refine Below.alloc ?_ (by first | (simp; done) | (simp; omega) | omega) _) | (refine Below.drew ?_) | (refine Below.drewN' ?_ _)))⟩

set_option maxHeartbeats 1000000 in
theorem cut_case3 (nd a id k fresh parent index : Int) (w : World) (b1 : -1 ≤ nd ∧ nd ≤ 1073741824) (b2 : -1 ≤ a ∧ a ≤ 1073741824) (b3 : -1 ≤ k ∧ k ≤ 1073741824) (hA1 : ¬ (nd = id ∧ k < a)) (hP : 0 ≤ parent) (hA2 : ¬ (nd = parent ∧ index < a)) :
    Calls Try.prog 111 #[.agg #[.int .i64 nd, .int .i64 a], .int .i64 id, .int .i64 k, .int .i64 fresh, .int .i64 parent, .int .i64 index] w (Ret (PV (cutP (nd, a) id k fresh parent index)) w) := by
  have e : cutP (nd, a) id k fresh parent index = (nd, a) := by simp only [cutP]; rw [if_neg hA1, if_neg (fun h => hA2 h.2)]
  rw [e]; clear e
  have hd : decide (0 ≤ parent) = true := by simp; omega
  have HA1 := Lib.hid (fun (w : World) => above_any nd a id k w)
  have hr1 : (nd == id && decide (k < a)) = false := by simp; omega
  rw [hr1] at HA1; clear hr1 hA1
  have HA2 := Lib.hid (fun (w : World) => above_any nd a parent index w)
  have hr2 : (nd == parent && decide (index < a)) = false := by simp; omega
  rw [hr2] at HA2; clear hr2 hA2
  go_enter Try.func111, Try.ntmps111
  go_wp2_with fail
  ((with_reducible refine (HA1.out _).mono ?_); rintro e w1 ⟨rfl, hb⟩; have hz_w1 := hb.size; (try simp only [World.size_alloc, World.size_setCell, World.size_drew, size_drewN'] at hz_w1); have k0_w1 := fun o => hb.cell (p := ⟨w.heap.size, o, none⟩) (by first | (simp; done) | (simp; omega) | omega); (try simp [go_sem] at k0_w1); have l0_w1 := fun o => hb.frozen (p := ⟨w.heap.size, o, none⟩) (by first | (simp; done) | (simp; omega) | omega); (try simp [go_sem] at l0_w1); have k1_w1 := fun o => hb.cell (p := ⟨w.heap.size + 1, o, none⟩) (by first | (simp; done) | (simp; omega) | omega); (try simp [go_sem] at k1_w1); have l1_w1 := fun o => hb.frozen (p := ⟨w.heap.size + 1, o, none⟩) (by first | (simp; done) | (simp; omega) | omega); (try simp [go_sem] at l1_w1); have k2_w1 := fun o => hb.cell (p := ⟨w.heap.size + 1 + 1, o, none⟩) (by first | (simp; done) | (simp; omega) | omega); (try simp [go_sem] at k2_w1); have l2_w1 := fun o => hb.frozen (p := ⟨w.heap.size + 1 + 1, o, none⟩) (by first | (simp; done) | (simp; omega) | omega); (try simp [go_sem] at l2_w1); have hb_w1 : Below w.heap.size w w1 := Below.trans (by exact (by repeat (first | exact Below.refl _ _ | assumption | (refine Below.setCell ?_ (by first | (simp; done) | (simp; omega) | omega) _) | (refine Below.alloc ?_ (by first | (simp; done) | (simp; omega) | omega) _) | (refine Below.drew ?_) | (refine Below.drewN' ?_ _)))) (hb.mono (by first | (simp; done) | (simp; omega) | omega)); obtain ⟨hc_w1, hf_w1⟩ := bcell hb_w1; clear hb)
  go_wp2_with fail
  ((with_reducible refine (HA2.out _).mono ?_); rintro e w2 ⟨rfl, hb⟩; have hz_w2 := hb.size; (try simp only [World.size_alloc, World.size_setCell, World.size_drew, size_drewN'] at hz_w2); have k0_w2 := fun o => hb.cell (p := ⟨w.heap.size, o, none⟩) (by first | (simp; done) | (simp; omega) | omega); (try simp [go_sem, k0_w1] at k0_w2); have l0_w2 := fun o => hb.frozen (p := ⟨w.heap.size, o, none⟩) (by first | (simp; done) | (simp; omega) | omega); (try simp [go_sem, l0_w1] at l0_w2); have k1_w2 := fun o => hb.cell (p := ⟨w.heap.size + 1, o, none⟩) (by first | (simp; done) | (simp; omega) | omega); (try simp [go_sem, k1_w1] at k1_w2); have l1_w2 := fun o => hb.frozen (p := ⟨w.heap.size + 1, o, none⟩) (by first | (simp; done) | (simp; omega) | omega); (try simp [go_sem, l1_w1] at l1_w2); have k2_w2 := fun o => hb.cell (p := ⟨w.heap.size + 1 + 1, o, none⟩) (by first | (simp; done) | (simp; omega) | omega); (try simp [go_sem, k2_w1] at k2_w2); have l2_w2 := fun o => hb.frozen (p := ⟨w.heap.size + 1 + 1, o, none⟩) (by first | (simp; done) | (simp; omega) | omega); (try simp [go_sem, l2_w1] at l2_w2); have hb_w2 : Below w.heap.size w w2 := Below.trans (by exact (by repeat (first | exact Below.refl _ _ | assumption | (refine Below.setCell ?_ (by first | (simp; done) | (simp; omega) | omega) _) | (refine Below.alloc ?_ (by first | (simp; done) | (simp; omega) | omega) _) | (refine Below.drew ?_) | (refine Below.drewN' ?_ _)))) (hb.mono (by first | (simp; done) | (simp; omega) | omega)); obtain ⟨hc_w2, hf_w2⟩ := bcell hb_w2; clear hb)
  go_wp2_with fail
  exact bodyPost_ret (v := PV (nd, a)) (by simp [results, Try.results111, go_sem, *]) rfl ⟨rfl, (by repeat (first | exact Below.refl _ _ | assumption | (refine Below.setCell ?_ (by first | (simp; done) | (simp; omega) | omega) _) | (refine Below.alloc ?_ (by first | (simp; done) | (simp; omega) | omega) _) | (refine Below.drew ?_) | (refine Below.drewN' ?_ _)))⟩

theorem cut_any (nd a id k fresh parent index : Int) (w : World) (b1 : -1 ≤ nd ∧ nd ≤ 1073741824) (b2 : -1 ≤ a ∧ a ≤ 1073741824) (b3 : -1 ≤ k ∧ k ≤ 1073741824) : Calls Try.prog 111 #[.agg #[.int .i64 nd, .int .i64 a], .int .i64 id, .int .i64 k, .int .i64 fresh, .int .i64 parent, .int .i64 index] w (Ret (PV (cutP (nd, a) id k fresh parent index)) w) := by
  by_cases hA : nd = id ∧ k < a
  · exact cut_case0 nd a id k fresh parent index w b1 b2 b3 hA
  · by_cases hP : 0 ≤ parent
    · by_cases hB : nd = parent ∧ index < a
      · exact cut_case2 nd a id k fresh parent index w b1 b2 b3 hA hP hB
      · exact cut_case3 nd a id k fresh parent index w b1 b2 b3 hA hP hB
    · exact cut_case1 nd a id k fresh parent index w b1 b2 b3 hA (by omega)

def splitTextP (p : Int × Int) (id k fresh parent index : Int) : Int × Int :=
  if fitB p.1 p.2 [id, k, fresh, parent, index] = true then cutP p id k fresh parent index else p

set_option maxHeartbeats 1000000 in
theorem splitText_case0 (nd a id k fresh parent index : Int) (w : World) (hF : fitB nd a [id, k, fresh, parent, index] = false) :
    Calls Try.prog 28 #[.agg #[.int .i64 nd, .int .i64 a], .int .i64 id, .int .i64 k, .int .i64 fresh, .int .i64 parent, .int .i64 index] w (Ret (PV (splitTextP (nd, a) id k fresh parent index)) w) := by
  have e : splitTextP (nd, a) id k fresh parent index = (nd, a) := by simp only [splitTextP]; rw [if_neg (by simp [hF])]
  rw [e]; clear e
  have HF := Lib.hid (fun (w : World) (b : Nat) (hb : b = w.heap.size) => fit_new nd a [id, k, fresh, parent, index] w _ hF (by simp) 5 rfl #[.int .i64 id, .int .i64 k, .int .i64 fresh, .int .i64 parent, .int .i64 index] rfl b hb)
  clear hF
  go_enter Try.func28, Try.ntmps28
  go_wp2_with fail
  ((with_reducible refine (HF.out _ _ (by simp)).mono ?_); rintro e w1 ⟨rfl, hb⟩; have hz_w1 := hb.size; (try simp only [World.size_alloc, World.size_setCell, World.size_drew, size_drewN'] at hz_w1); have k0_w1 := fun o => hb.cell (p := ⟨w.heap.size, o, none⟩) (by first | (simp; done) | (simp; omega) | omega); (try simp [go_sem] at k0_w1); have l0_w1 := fun o => hb.frozen (p := ⟨w.heap.size, o, none⟩) (by first | (simp; done) | (simp; omega) | omega); (try simp [go_sem] at l0_w1); have k1_w1 := fun o => hb.cell (p := ⟨w.heap.size + 1, o, none⟩) (by first | (simp; done) | (simp; omega) | omega); (try simp [go_sem] at k1_w1); have l1_w1 := fun o => hb.frozen (p := ⟨w.heap.size + 1, o, none⟩) (by first | (simp; done) | (simp; omega) | omega); (try simp [go_sem] at l1_w1); have hb_w1 : Below w.heap.size w w1 := Below.trans (by exact (by repeat (first | exact Below.refl _ _ | assumption | (refine Below.setCell ?_ (by first | (simp; done) | (simp; omega) | omega) _) | (refine Below.alloc ?_ (by first | (simp; done) | (simp; omega) | omega) _) | (refine Below.drew ?_) | (refine Below.drewN' ?_ _)))) (hb.mono (by first | (simp; done) | (simp; omega) | omega)); obtain ⟨hc_w1, hf_w1⟩ := bcell hb_w1; clear hb)
  go_wp2_with fail
  exact bodyPost_ret (v := PV (nd, a)) (by simp [results, Try.results28, go_sem, *]) rfl ⟨rfl, (by repeat (first | exact Below.refl _ _ | assumption | (refine Below.setCell ?_ (by first | (simp; done) | (simp; omega) | omega) _) | (refine Below.alloc ?_ (by first | (simp; done) | (simp; omega) | omega) _) | (refine Below.drew ?_) | (refine Below.drewN' ?_ _)))⟩

set_option maxHeartbeats 1000000 in
theorem splitText_case1 (nd a id k fresh parent index : Int) (w : World) (hF : fitB nd a [id, k, fresh, parent, index] = true) :
    Calls Try.prog 28 #[.agg #[.int .i64 nd, .int .i64 a], .int .i64 id, .int .i64 k, .int .i64 fresh, .int .i64 parent, .int .i64 index] w (Ret (PV (splitTextP (nd, a) id k fresh parent index)) w) := by
  have e : splitTextP (nd, a) id k fresh parent index = (cutP (nd, a) id k fresh parent index) := by simp only [splitTextP]; rw [if_pos hF]
  rw [e]; clear e
  have HC := Lib.hid (fun w => cut_any nd a id k fresh parent index w (fitB_all hF).1 (fitB_all hF).2.1 ((fitB_all hF).2.2 k (by simp)))
  generalize cutP (nd, a) id k fresh parent index = r at HC ⊢
  obtain ⟨b1, b2, b3⟩ := fitB_all hF
  have c_fresh := b3 fresh (by simp)
  have c_id := b3 id (by simp)
  have c_index := b3 index (by simp)
  have c_k := b3 k (by simp)
  have c_parent := b3 parent (by simp)
  clear b3
  have HF := Lib.hid (fun (w : World) (b : Nat) (hb : b = w.heap.size) => fit_new nd a [id, k, fresh, parent, index] w _ hF (by simp) 5 rfl #[.int .i64 id, .int .i64 k, .int .i64 fresh, .int .i64 parent, .int .i64 index] rfl b hb)
  clear hF
  go_enter Try.func28, Try.ntmps28
  go_wp2_with fail
  ((with_reducible refine (HF.out _ _ (by simp)).mono ?_); rintro e w1 ⟨rfl, hb⟩; have hz_w1 := hb.size; (try simp only [World.size_alloc, World.size_setCell, World.size_drew, size_drewN'] at hz_w1); have k0_w1 := fun o => hb.cell (p := ⟨w.heap.size, o, none⟩) (by first | (simp; done) | (simp; omega) | omega); (try simp [go_sem] at k0_w1); have l0_w1 := fun o => hb.frozen (p := ⟨w.heap.size, o, none⟩) (by first | (simp; done) | (simp; omega) | omega); (try simp [go_sem] at l0_w1); have k1_w1 := fun o => hb.cell (p := ⟨w.heap.size + 1, o, none⟩) (by first | (simp; done) | (simp; omega) | omega); (try simp [go_sem] at k1_w1); have l1_w1 := fun o => hb.frozen (p := ⟨w.heap.size + 1, o, none⟩) (by first | (simp; done) | (simp; omega) | omega); (try simp [go_sem] at l1_w1); have hb_w1 : Below w.heap.size w w1 := Below.trans (by exact (by repeat (first | exact Below.refl _ _ | assumption | (refine Below.setCell ?_ (by first | (simp; done) | (simp; omega) | omega) _) | (refine Below.alloc ?_ (by first | (simp; done) | (simp; omega) | omega) _) | (refine Below.drew ?_) | (refine Below.drewN' ?_ _)))) (hb.mono (by first | (simp; done) | (simp; omega) | omega)); obtain ⟨hc_w1, hf_w1⟩ := bcell hb_w1; clear hb)
  go_wp2_with fail
  ((with_reducible refine (HC.out _).mono ?_); rintro e w2 ⟨rfl, hb⟩; have hz_w2 := hb.size; (try simp only [World.size_alloc, World.size_setCell, World.size_drew, size_drewN'] at hz_w2); have k0_w2 := fun o => hb.cell (p := ⟨w.heap.size, o, none⟩) (by first | (simp; done) | (simp; omega) | omega); (try simp [go_sem, k0_w1] at k0_w2); have l0_w2 := fun o => hb.frozen (p := ⟨w.heap.size, o, none⟩) (by first | (simp; done) | (simp; omega) | omega); (try simp [go_sem, l0_w1] at l0_w2); have k1_w2 := fun o => hb.cell (p := ⟨w.heap.size + 1, o, none⟩) (by first | (simp; done) | (simp; omega) | omega); (try simp [go_sem, k1_w1] at k1_w2); have l1_w2 := fun o => hb.frozen (p := ⟨w.heap.size + 1, o, none⟩) (by first | (simp; done) | (simp; omega) | omega); (try simp [go_sem, l1_w1] at l1_w2); have hb_w2 : Below w.heap.size w w2 := Below.trans (by exact (by repeat (first | exact Below.refl _ _ | assumption | (refine Below.setCell ?_ (by first | (simp; done) | (simp; omega) | omega) _) | (refine Below.alloc ?_ (by first | (simp; done) | (simp; omega) | omega) _) | (refine Below.drew ?_) | (refine Below.drewN' ?_ _)))) (hb.mono (by first | (simp; done) | (simp; omega) | omega)); obtain ⟨hc_w2, hf_w2⟩ := bcell hb_w2; clear hb)
  go_wp2_with fail
  exact bodyPost_ret (v := PV r) (by simp [results, Try.results28, go_sem, *]) rfl ⟨rfl, (by repeat (first | exact Below.refl _ _ | assumption | (refine Below.setCell ?_ (by first | (simp; done) | (simp; omega) | omega) _) | (refine Below.alloc ?_ (by first | (simp; done) | (simp; omega) | omega) _) | (refine Below.drew ?_) | (refine Below.drewN' ?_ _)))⟩

theorem splitText_any (nd a id k fresh parent index : Int) (w : World) : Calls Try.prog 28 #[.agg #[.int .i64 nd, .int .i64 a], .int .i64 id, .int .i64 k, .int .i64 fresh, .int .i64 parent, .int .i64 index] w (Ret (PV (splitTextP (nd, a) id k fresh parent index)) w) := by
  cases hF : fitB nd a [id, k, fresh, parent, index]
  · exact splitText_case0 nd a id k fresh parent index w hF
  · exact splitText_case1 nd a id k fresh parent index w hF

def wrappedP (p : Int × Int) (parent k n fresh : Int) : Int × Int :=
  if fitB p.1 p.2 [parent, k, n, fresh] = true then (if p.1 = parent ∧ k < p.2 then (if p.2 < k + n then (fresh, p.2 - k) else (parent, p.2 - n + 1)) else p) else p

set_option maxHeartbeats 1000000 in
theorem wrapped_case0 (nd a parent k n fresh : Int) (w : World) (hF : fitB nd a [parent, k, n, fresh] = false) :
    Calls Try.prog 26 #[.agg #[.int .i64 nd, .int .i64 a], .int .i64 parent, .int .i64 k, .int .i64 n, .int .i64 fresh] w (Ret (PV (wrappedP (nd, a) parent k n fresh)) w) := by
  have e : wrappedP (nd, a) parent k n fresh = (nd, a) := by simp only [wrappedP]; rw [if_neg (by simp [hF])]
  rw [e]; clear e
  have HF := Lib.hid (fun (w : World) (b : Nat) (hb : b = w.heap.size) => fit_new nd a [parent, k, n, fresh] w _ hF (by simp) 4 rfl #[.int .i64 parent, .int .i64 k, .int .i64 n, .int .i64 fresh] rfl b hb)
  clear hF
  go_enter Try.func26, Try.ntmps26
  go_wp2_with fail
  ((with_reducible refine (HF.out _ _ (by simp)).mono ?_); rintro e w1 ⟨rfl, hb⟩; have hz_w1 := hb.size; (try simp only [World.size_alloc, World.size_setCell, World.size_drew, size_drewN'] at hz_w1); have k0_w1 := fun o => hb.cell (p := ⟨w.heap.size, o, none⟩) (by first | (simp; done) | (simp; omega) | omega); (try simp [go_sem] at k0_w1); have l0_w1 := fun o => hb.frozen (p := ⟨w.heap.size, o, none⟩) (by first | (simp; done) | (simp; omega) | omega); (try simp [go_sem] at l0_w1); have k1_w1 := fun o => hb.cell (p := ⟨w.heap.size + 1, o, none⟩) (by first | (simp; done) | (simp; omega) | omega); (try simp [go_sem] at k1_w1); have l1_w1 := fun o => hb.frozen (p := ⟨w.heap.size + 1, o, none⟩) (by first | (simp; done) | (simp; omega) | omega); (try simp [go_sem] at l1_w1); have hb_w1 : Below w.heap.size w w1 := Below.trans (by exact (by repeat (first | exact Below.refl _ _ | assumption | (refine Below.setCell ?_ (by first | (simp; done) | (simp; omega) | omega) _) | (refine Below.alloc ?_ (by first | (simp; done) | (simp; omega) | omega) _) | (refine Below.drew ?_) | (refine Below.drewN' ?_ _)))) (hb.mono (by first | (simp; done) | (simp; omega) | omega)); obtain ⟨hc_w1, hf_w1⟩ := bcell hb_w1; clear hb)
  go_wp2_with fail
  exact bodyPost_ret (v := PV (nd, a)) (by simp [results, Try.results26, go_sem, *]) rfl ⟨rfl, (by repeat (first | exact Below.refl _ _ | assumption | (refine Below.setCell ?_ (by first | (simp; done) | (simp; omega) | omega) _) | (refine Below.alloc ?_ (by first | (simp; done) | (simp; omega) | omega) _) | (refine Below.drew ?_) | (refine Below.drewN' ?_ _)))⟩

set_option maxHeartbeats 1000000 in
theorem wrapped_case1 (nd a parent k n fresh : Int) (w : World) (hF : fitB nd a [parent, k, n, fresh] = true) (hA2 : ¬ (nd = parent ∧ k < a)) :
    Calls Try.prog 26 #[.agg #[.int .i64 nd, .int .i64 a], .int .i64 parent, .int .i64 k, .int .i64 n, .int .i64 fresh] w (Ret (PV (wrappedP (nd, a) parent k n fresh)) w) := by
  have e : wrappedP (nd, a) parent k n fresh = (nd, a) := by simp only [wrappedP]; rw [if_pos hF, if_neg hA2]
  rw [e]; clear e
  obtain ⟨b1, b2, b3⟩ := fitB_all hF
  have c_fresh := b3 fresh (by simp)
  have c_k := b3 k (by simp)
  have c_n := b3 n (by simp)
  have c_parent := b3 parent (by simp)
  clear b3
  have HF := Lib.hid (fun (w : World) (b : Nat) (hb : b = w.heap.size) => fit_new nd a [parent, k, n, fresh] w _ hF (by simp) 4 rfl #[.int .i64 parent, .int .i64 k, .int .i64 n, .int .i64 fresh] rfl b hb)
  clear hF
  have HA2 := Lib.hid (fun (w : World) => above_any nd a parent k w)
  have hr2 : (nd == parent && decide (k < a)) = false := by simp; omega
  rw [hr2] at HA2; clear hr2 hA2
  go_enter Try.func26, Try.ntmps26
  go_wp2_with fail
  ((with_reducible refine (HF.out _ _ (by simp)).mono ?_); rintro e w1 ⟨rfl, hb⟩; have hz_w1 := hb.size; (try simp only [World.size_alloc, World.size_setCell, World.size_drew, size_drewN'] at hz_w1); have k0_w1 := fun o => hb.cell (p := ⟨w.heap.size, o, none⟩) (by first | (simp; done) | (simp; omega) | omega); (try simp [go_sem] at k0_w1); have l0_w1 := fun o => hb.frozen (p := ⟨w.heap.size, o, none⟩) (by first | (simp; done) | (simp; omega) | omega); (try simp [go_sem] at l0_w1); have k1_w1 := fun o => hb.cell (p := ⟨w.heap.size + 1, o, none⟩) (by first | (simp; done) | (simp; omega) | omega); (try simp [go_sem] at k1_w1); have l1_w1 := fun o => hb.frozen (p := ⟨w.heap.size + 1, o, none⟩) (by first | (simp; done) | (simp; omega) | omega); (try simp [go_sem] at l1_w1); have hb_w1 : Below w.heap.size w w1 := Below.trans (by exact (by repeat (first | exact Below.refl _ _ | assumption | (refine Below.setCell ?_ (by first | (simp; done) | (simp; omega) | omega) _) | (refine Below.alloc ?_ (by first | (simp; done) | (simp; omega) | omega) _) | (refine Below.drew ?_) | (refine Below.drewN' ?_ _)))) (hb.mono (by first | (simp; done) | (simp; omega) | omega)); obtain ⟨hc_w1, hf_w1⟩ := bcell hb_w1; clear hb)
  go_wp2_with fail
  ((with_reducible refine (HA2.out _).mono ?_); rintro e w2 ⟨rfl, hb⟩; have hz_w2 := hb.size; (try simp only [World.size_alloc, World.size_setCell, World.size_drew, size_drewN'] at hz_w2); have k0_w2 := fun o => hb.cell (p := ⟨w.heap.size, o, none⟩) (by first | (simp; done) | (simp; omega) | omega); (try simp [go_sem, k0_w1] at k0_w2); have l0_w2 := fun o => hb.frozen (p := ⟨w.heap.size, o, none⟩) (by first | (simp; done) | (simp; omega) | omega); (try simp [go_sem, l0_w1] at l0_w2); have k1_w2 := fun o => hb.cell (p := ⟨w.heap.size + 1, o, none⟩) (by first | (simp; done) | (simp; omega) | omega); (try simp [go_sem, k1_w1] at k1_w2); have l1_w2 := fun o => hb.frozen (p := ⟨w.heap.size + 1, o, none⟩) (by first | (simp; done) | (simp; omega) | omega); (try simp [go_sem, l1_w1] at l1_w2); have hb_w2 : Below w.heap.size w w2 := Below.trans (by exact (by repeat (first | exact Below.refl _ _ | assumption | (refine Below.setCell ?_ (by first | (simp; done) | (simp; omega) | omega) _) | (refine Below.alloc ?_ (by first | (simp; done) | (simp; omega) | omega) _) | (refine Below.drew ?_) | (refine Below.drewN' ?_ _)))) (hb.mono (by first | (simp; done) | (simp; omega) | omega)); obtain ⟨hc_w2, hf_w2⟩ := bcell hb_w2; clear hb)
  go_wp2_with fail
  exact bodyPost_ret (v := PV (nd, a)) (by simp [results, Try.results26, go_sem, *]) rfl ⟨rfl, (by repeat (first | exact Below.refl _ _ | assumption | (refine Below.setCell ?_ (by first | (simp; done) | (simp; omega) | omega) _) | (refine Below.alloc ?_ (by first | (simp; done) | (simp; omega) | omega) _) | (refine Below.drew ?_) | (refine Below.drewN' ?_ _)))⟩

set_option maxHeartbeats 1000000 in
theorem wrapped_case2 (nd a parent k n fresh : Int) (w : World) (hF : fitB nd a [parent, k, n, fresh] = true) (hA2 : nd = parent ∧ k < a) (hC : a < k + n) :
    Calls Try.prog 26 #[.agg #[.int .i64 nd, .int .i64 a], .int .i64 parent, .int .i64 k, .int .i64 n, .int .i64 fresh] w (Ret (PV (wrappedP (nd, a) parent k n fresh)) w) := by
  have e : wrappedP (nd, a) parent k n fresh = (fresh, a - k) := by simp only [wrappedP]; rw [if_pos hF, if_pos hA2, if_pos hC]
  rw [e]; clear e
  obtain ⟨b1, b2, b3⟩ := fitB_all hF
  have c_fresh := b3 fresh (by simp)
  have c_k := b3 k (by simp)
  have c_n := b3 n (by simp)
  have c_parent := b3 parent (by simp)
  clear b3
  have HF := Lib.hid (fun (w : World) (b : Nat) (hb : b = w.heap.size) => fit_new nd a [parent, k, n, fresh] w _ hF (by simp) 4 rfl #[.int .i64 parent, .int .i64 k, .int .i64 n, .int .i64 fresh] rfl b hb)
  clear hF
  have HA2 := Lib.hid (fun (w : World) => above_any nd a parent k w)
  have hr2 : (nd == parent && decide (k < a)) = true := by simp [hA2]
  rw [hr2] at HA2; clear hr2 hA2
  go_enter Try.func26, Try.ntmps26
  go_wp2_with fail
  ((with_reducible refine (HF.out _ _ (by simp)).mono ?_); rintro e w1 ⟨rfl, hb⟩; have hz_w1 := hb.size; (try simp only [World.size_alloc, World.size_setCell, World.size_drew, size_drewN'] at hz_w1); have k0_w1 := fun o => hb.cell (p := ⟨w.heap.size, o, none⟩) (by first | (simp; done) | (simp; omega) | omega); (try simp [go_sem] at k0_w1); have l0_w1 := fun o => hb.frozen (p := ⟨w.heap.size, o, none⟩) (by first | (simp; done) | (simp; omega) | omega); (try simp [go_sem] at l0_w1); have k1_w1 := fun o => hb.cell (p := ⟨w.heap.size + 1, o, none⟩) (by first | (simp; done) | (simp; omega) | omega); (try simp [go_sem] at k1_w1); have l1_w1 := fun o => hb.frozen (p := ⟨w.heap.size + 1, o, none⟩) (by first | (simp; done) | (simp; omega) | omega); (try simp [go_sem] at l1_w1); have hb_w1 : Below w.heap.size w w1 := Below.trans (by exact (by repeat (first | exact Below.refl _ _ | assumption | (refine Below.setCell ?_ (by first | (simp; done) | (simp; omega) | omega) _) | (refine Below.alloc ?_ (by first | (simp; done) | (simp; omega) | omega) _) | (refine Below.drew ?_) | (refine Below.drewN' ?_ _)))) (hb.mono (by first | (simp; done) | (simp; omega) | omega)); obtain ⟨hc_w1, hf_w1⟩ := bcell hb_w1; clear hb)
  go_wp2_with fail
  ((with_reducible refine (HA2.out _).mono ?_); rintro e w2 ⟨rfl, hb⟩; have hz_w2 := hb.size; (try simp only [World.size_alloc, World.size_setCell, World.size_drew, size_drewN'] at hz_w2); have k0_w2 := fun o => hb.cell (p := ⟨w.heap.size, o, none⟩) (by first | (simp; done) | (simp; omega) | omega); (try simp [go_sem, k0_w1] at k0_w2); have l0_w2 := fun o => hb.frozen (p := ⟨w.heap.size, o, none⟩) (by first | (simp; done) | (simp; omega) | omega); (try simp [go_sem, l0_w1] at l0_w2); have k1_w2 := fun o => hb.cell (p := ⟨w.heap.size + 1, o, none⟩) (by first | (simp; done) | (simp; omega) | omega); (try simp [go_sem, k1_w1] at k1_w2); have l1_w2 := fun o => hb.frozen (p := ⟨w.heap.size + 1, o, none⟩) (by first | (simp; done) | (simp; omega) | omega); (try simp [go_sem, l1_w1] at l1_w2); have hb_w2 : Below w.heap.size w w2 := Below.trans (by exact (by repeat (first | exact Below.refl _ _ | assumption | (refine Below.setCell ?_ (by first | (simp; done) | (simp; omega) | omega) _) | (refine Below.alloc ?_ (by first | (simp; done) | (simp; omega) | omega) _) | (refine Below.drew ?_) | (refine Below.drewN' ?_ _)))) (hb.mono (by first | (simp; done) | (simp; omega) | omega)); obtain ⟨hc_w2, hf_w2⟩ := bcell hb_w2; clear hb)
  go_wp2_with fail
  ((with_reducible refine (to_any _ _ _).mono ?_); rintro e w3 ⟨rfl, hb⟩; have hz_w3 := hb.size; (try simp only [World.size_alloc, World.size_setCell, World.size_drew, size_drewN'] at hz_w3); have k0_w3 := fun o => hb.cell (p := ⟨w.heap.size, o, none⟩) (by first | (simp; done) | (simp; omega) | omega); (try simp [go_sem, k0_w2] at k0_w3); have l0_w3 := fun o => hb.frozen (p := ⟨w.heap.size, o, none⟩) (by first | (simp; done) | (simp; omega) | omega); (try simp [go_sem, l0_w2] at l0_w3); have k1_w3 := fun o => hb.cell (p := ⟨w.heap.size + 1, o, none⟩) (by first | (simp; done) | (simp; omega) | omega); (try simp [go_sem, k1_w2] at k1_w3); have l1_w3 := fun o => hb.frozen (p := ⟨w.heap.size + 1, o, none⟩) (by first | (simp; done) | (simp; omega) | omega); (try simp [go_sem, l1_w2] at l1_w3); have hb_w3 : Below w.heap.size w w3 := Below.trans (by exact (by repeat (first | exact Below.refl _ _ | assumption | (refine Below.setCell ?_ (by first | (simp; done) | (simp; omega) | omega) _) | (refine Below.alloc ?_ (by first | (simp; done) | (simp; omega) | omega) _) | (refine Below.drew ?_) | (refine Below.drewN' ?_ _)))) (hb.mono (by first | (simp; done) | (simp; omega) | omega)); obtain ⟨hc_w3, hf_w3⟩ := bcell hb_w3; clear hb)
  go_wp2_with fail
  exact bodyPost_ret (v := PV (fresh, a - k)) (by simp [results, Try.results26, go_sem, *]) rfl ⟨rfl, (by repeat (first | exact Below.refl _ _ | assumption | (refine Below.setCell ?_ (by first | (simp; done) | (simp; omega) | omega) _) | (refine Below.alloc ?_ (by first | (simp; done) | (simp; omega) | omega) _) | (refine Below.drew ?_) | (refine Below.drewN' ?_ _)))⟩

set_option maxHeartbeats 1000000 in
theorem wrapped_case3 (nd a parent k n fresh : Int) (w : World) (hF : fitB nd a [parent, k, n, fresh] = true) (hA2 : nd = parent ∧ k < a) (hC : ¬ a < k + n) :
    Calls Try.prog 26 #[.agg #[.int .i64 nd, .int .i64 a], .int .i64 parent, .int .i64 k, .int .i64 n, .int .i64 fresh] w (Ret (PV (wrappedP (nd, a) parent k n fresh)) w) := by
  have e : wrappedP (nd, a) parent k n fresh = (parent, a - n + 1) := by simp only [wrappedP]; rw [if_pos hF, if_pos hA2, if_neg hC]
  rw [e]; clear e
  obtain ⟨b1, b2, b3⟩ := fitB_all hF
  have c_fresh := b3 fresh (by simp)
  have c_k := b3 k (by simp)
  have c_n := b3 n (by simp)
  have c_parent := b3 parent (by simp)
  clear b3
  have HF := Lib.hid (fun (w : World) (b : Nat) (hb : b = w.heap.size) => fit_new nd a [parent, k, n, fresh] w _ hF (by simp) 4 rfl #[.int .i64 parent, .int .i64 k, .int .i64 n, .int .i64 fresh] rfl b hb)
  clear hF
  have HA2 := Lib.hid (fun (w : World) => above_any nd a parent k w)
  have hr2 : (nd == parent && decide (k < a)) = true := by simp [hA2]
  rw [hr2] at HA2; clear hr2 hA2
  go_enter Try.func26, Try.ntmps26
  go_wp2_with fail
  ((with_reducible refine (HF.out _ _ (by simp)).mono ?_); rintro e w1 ⟨rfl, hb⟩; have hz_w1 := hb.size; (try simp only [World.size_alloc, World.size_setCell, World.size_drew, size_drewN'] at hz_w1); have k0_w1 := fun o => hb.cell (p := ⟨w.heap.size, o, none⟩) (by first | (simp; done) | (simp; omega) | omega); (try simp [go_sem] at k0_w1); have l0_w1 := fun o => hb.frozen (p := ⟨w.heap.size, o, none⟩) (by first | (simp; done) | (simp; omega) | omega); (try simp [go_sem] at l0_w1); have k1_w1 := fun o => hb.cell (p := ⟨w.heap.size + 1, o, none⟩) (by first | (simp; done) | (simp; omega) | omega); (try simp [go_sem] at k1_w1); have l1_w1 := fun o => hb.frozen (p := ⟨w.heap.size + 1, o, none⟩) (by first | (simp; done) | (simp; omega) | omega); (try simp [go_sem] at l1_w1); have hb_w1 : Below w.heap.size w w1 := Below.trans (by exact (by repeat (first | exact Below.refl _ _ | assumption | (refine Below.setCell ?_ (by first | (simp; done) | (simp; omega) | omega) _) | (refine Below.alloc ?_ (by first | (simp; done) | (simp; omega) | omega) _) | (refine Below.drew ?_) | (refine Below.drewN' ?_ _)))) (hb.mono (by first | (simp; done) | (simp; omega) | omega)); obtain ⟨hc_w1, hf_w1⟩ := bcell hb_w1; clear hb)
  go_wp2_with fail
  ((with_reducible refine (HA2.out _).mono ?_); rintro e w2 ⟨rfl, hb⟩; have hz_w2 := hb.size; (try simp only [World.size_alloc, World.size_setCell, World.size_drew, size_drewN'] at hz_w2); have k0_w2 := fun o => hb.cell (p := ⟨w.heap.size, o, none⟩) (by first | (simp; done) | (simp; omega) | omega); (try simp [go_sem, k0_w1] at k0_w2); have l0_w2 := fun o => hb.frozen (p := ⟨w.heap.size, o, none⟩) (by first | (simp; done) | (simp; omega) | omega); (try simp [go_sem, l0_w1] at l0_w2); have k1_w2 := fun o => hb.cell (p := ⟨w.heap.size + 1, o, none⟩) (by first | (simp; done) | (simp; omega) | omega); (try simp [go_sem, k1_w1] at k1_w2); have l1_w2 := fun o => hb.frozen (p := ⟨w.heap.size + 1, o, none⟩) (by first | (simp; done) | (simp; omega) | omega); (try simp [go_sem, l1_w1] at l1_w2); have hb_w2 : Below w.heap.size w w2 := Below.trans (by exact (by repeat (first | exact Below.refl _ _ | assumption | (refine Below.setCell ?_ (by first | (simp; done) | (simp; omega) | omega) _) | (refine Below.alloc ?_ (by first | (simp; done) | (simp; omega) | omega) _) | (refine Below.drew ?_) | (refine Below.drewN' ?_ _)))) (hb.mono (by first | (simp; done) | (simp; omega) | omega)); obtain ⟨hc_w2, hf_w2⟩ := bcell hb_w2; clear hb)
  go_wp2_with fail
  ((with_reducible refine (to_any _ _ _).mono ?_); rintro e w3 ⟨rfl, hb⟩; have hz_w3 := hb.size; (try simp only [World.size_alloc, World.size_setCell, World.size_drew, size_drewN'] at hz_w3); have k0_w3 := fun o => hb.cell (p := ⟨w.heap.size, o, none⟩) (by first | (simp; done) | (simp; omega) | omega); (try simp [go_sem, k0_w2] at k0_w3); have l0_w3 := fun o => hb.frozen (p := ⟨w.heap.size, o, none⟩) (by first | (simp; done) | (simp; omega) | omega); (try simp [go_sem, l0_w2] at l0_w3); have k1_w3 := fun o => hb.cell (p := ⟨w.heap.size + 1, o, none⟩) (by first | (simp; done) | (simp; omega) | omega); (try simp [go_sem, k1_w2] at k1_w3); have l1_w3 := fun o => hb.frozen (p := ⟨w.heap.size + 1, o, none⟩) (by first | (simp; done) | (simp; omega) | omega); (try simp [go_sem, l1_w2] at l1_w3); have hb_w3 : Below w.heap.size w w3 := Below.trans (by exact (by repeat (first | exact Below.refl _ _ | assumption | (refine Below.setCell ?_ (by first | (simp; done) | (simp; omega) | omega) _) | (refine Below.alloc ?_ (by first | (simp; done) | (simp; omega) | omega) _) | (refine Below.drew ?_) | (refine Below.drewN' ?_ _)))) (hb.mono (by first | (simp; done) | (simp; omega) | omega)); obtain ⟨hc_w3, hf_w3⟩ := bcell hb_w3; clear hb)
  go_wp2_with fail
  exact bodyPost_ret (v := PV (parent, a - n + 1)) (by simp [results, Try.results26, go_sem, *]) rfl ⟨rfl, (by repeat (first | exact Below.refl _ _ | assumption | (refine Below.setCell ?_ (by first | (simp; done) | (simp; omega) | omega) _) | (refine Below.alloc ?_ (by first | (simp; done) | (simp; omega) | omega) _) | (refine Below.drew ?_) | (refine Below.drewN' ?_ _)))⟩

theorem wrapped_any (nd a parent k n fresh : Int) (w : World) : Calls Try.prog 26 #[.agg #[.int .i64 nd, .int .i64 a], .int .i64 parent, .int .i64 k, .int .i64 n, .int .i64 fresh] w (Ret (PV (wrappedP (nd, a) parent k n fresh)) w) := by
  cases hF : fitB nd a [parent, k, n, fresh]
  · exact wrapped_case0 nd a parent k n fresh w hF
  · by_cases hA : nd = parent ∧ k < a
    · by_cases hC : a < k + n
      · exact wrapped_case2 nd a parent k n fresh w hF hA hC
      · exact wrapped_case3 nd a parent k n fresh w hF hA hC
    · exact wrapped_case1 nd a parent k n fresh w hF hA

def unwrappedP (p : Int × Int) (id n parent index : Int) : Int × Int :=
  if fitB p.1 p.2 [id, n, parent, index] = true then (if p.1 = id then (parent, index + p.2) else if p.1 = parent ∧ index < p.2 then (p.1, p.2 + (n - 1)) else p) else p

set_option maxHeartbeats 1000000 in
theorem unwrapped_case0 (nd a id n parent index : Int) (w : World) (hF : fitB nd a [id, n, parent, index] = false) :
    Calls Try.prog 27 #[.agg #[.int .i64 nd, .int .i64 a], .int .i64 id, .int .i64 n, .int .i64 parent, .int .i64 index] w (Ret (PV (unwrappedP (nd, a) id n parent index)) w) := by
  have e : unwrappedP (nd, a) id n parent index = (nd, a) := by simp only [unwrappedP]; rw [if_neg (by simp [hF])]
  rw [e]; clear e
  have HF := Lib.hid (fun (w : World) (b : Nat) (hb : b = w.heap.size) => fit_new nd a [id, n, parent, index] w _ hF (by simp) 4 rfl #[.int .i64 id, .int .i64 n, .int .i64 parent, .int .i64 index] rfl b hb)
  clear hF
  go_enter Try.func27, Try.ntmps27
  go_wp2_with fail
  ((with_reducible refine (HF.out _ _ (by simp)).mono ?_); rintro e w1 ⟨rfl, hb⟩; have hz_w1 := hb.size; (try simp only [World.size_alloc, World.size_setCell, World.size_drew, size_drewN'] at hz_w1); have k0_w1 := fun o => hb.cell (p := ⟨w.heap.size, o, none⟩) (by first | (simp; done) | (simp; omega) | omega); (try simp [go_sem] at k0_w1); have l0_w1 := fun o => hb.frozen (p := ⟨w.heap.size, o, none⟩) (by first | (simp; done) | (simp; omega) | omega); (try simp [go_sem] at l0_w1); have k1_w1 := fun o => hb.cell (p := ⟨w.heap.size + 1, o, none⟩) (by first | (simp; done) | (simp; omega) | omega); (try simp [go_sem] at k1_w1); have l1_w1 := fun o => hb.frozen (p := ⟨w.heap.size + 1, o, none⟩) (by first | (simp; done) | (simp; omega) | omega); (try simp [go_sem] at l1_w1); have hb_w1 : Below w.heap.size w w1 := Below.trans (by exact (by repeat (first | exact Below.refl _ _ | assumption | (refine Below.setCell ?_ (by first | (simp; done) | (simp; omega) | omega) _) | (refine Below.alloc ?_ (by first | (simp; done) | (simp; omega) | omega) _) | (refine Below.drew ?_) | (refine Below.drewN' ?_ _)))) (hb.mono (by first | (simp; done) | (simp; omega) | omega)); obtain ⟨hc_w1, hf_w1⟩ := bcell hb_w1; clear hb)
  go_wp2_with fail
  exact bodyPost_ret (v := PV (nd, a)) (by simp [results, Try.results27, go_sem, *]) rfl ⟨rfl, (by repeat (first | exact Below.refl _ _ | assumption | (refine Below.setCell ?_ (by first | (simp; done) | (simp; omega) | omega) _) | (refine Below.alloc ?_ (by first | (simp; done) | (simp; omega) | omega) _) | (refine Below.drew ?_) | (refine Below.drewN' ?_ _)))⟩

set_option maxHeartbeats 1000000 in
theorem unwrapped_case1 (nd a id n parent index : Int) (w : World) (hF : fitB nd a [id, n, parent, index] = true) (hE : nd = id) :
    Calls Try.prog 27 #[.agg #[.int .i64 nd, .int .i64 a], .int .i64 id, .int .i64 n, .int .i64 parent, .int .i64 index] w (Ret (PV (unwrappedP (nd, a) id n parent index)) w) := by
  have e : unwrappedP (nd, a) id n parent index = (parent, index + a) := by simp only [unwrappedP]; rw [if_pos hF, if_pos hE]
  rw [e]; clear e
  subst hE
  have hd : (nd == nd) = true := by simp
  obtain ⟨b1, b2, b3⟩ := fitB_all hF
  have c_index := b3 index (by simp)
  have c_n := b3 n (by simp)
  have c_nd := b3 nd (by simp)
  have c_parent := b3 parent (by simp)
  clear b3
  have HF := Lib.hid (fun (w : World) (b : Nat) (hb : b = w.heap.size) => fit_new nd a [nd, n, parent, index] w _ hF (by simp) 4 rfl #[.int .i64 nd, .int .i64 n, .int .i64 parent, .int .i64 index] rfl b hb)
  clear hF
  go_enter Try.func27, Try.ntmps27
  go_wp2_with fail
  ((with_reducible refine (HF.out _ _ (by simp)).mono ?_); rintro e w1 ⟨rfl, hb⟩; have hz_w1 := hb.size; (try simp only [World.size_alloc, World.size_setCell, World.size_drew, size_drewN'] at hz_w1); have k0_w1 := fun o => hb.cell (p := ⟨w.heap.size, o, none⟩) (by first | (simp; done) | (simp; omega) | omega); (try simp [go_sem] at k0_w1); have l0_w1 := fun o => hb.frozen (p := ⟨w.heap.size, o, none⟩) (by first | (simp; done) | (simp; omega) | omega); (try simp [go_sem] at l0_w1); have k1_w1 := fun o => hb.cell (p := ⟨w.heap.size + 1, o, none⟩) (by first | (simp; done) | (simp; omega) | omega); (try simp [go_sem] at k1_w1); have l1_w1 := fun o => hb.frozen (p := ⟨w.heap.size + 1, o, none⟩) (by first | (simp; done) | (simp; omega) | omega); (try simp [go_sem] at l1_w1); have hb_w1 : Below w.heap.size w w1 := Below.trans (by exact (by repeat (first | exact Below.refl _ _ | assumption | (refine Below.setCell ?_ (by first | (simp; done) | (simp; omega) | omega) _) | (refine Below.alloc ?_ (by first | (simp; done) | (simp; omega) | omega) _) | (refine Below.drew ?_) | (refine Below.drewN' ?_ _)))) (hb.mono (by first | (simp; done) | (simp; omega) | omega)); obtain ⟨hc_w1, hf_w1⟩ := bcell hb_w1; clear hb)
  go_wp2_with fail
  ((with_reducible refine (to_any _ _ _).mono ?_); rintro e w2 ⟨rfl, hb⟩; have hz_w2 := hb.size; (try simp only [World.size_alloc, World.size_setCell, World.size_drew, size_drewN'] at hz_w2); have k0_w2 := fun o => hb.cell (p := ⟨w.heap.size, o, none⟩) (by first | (simp; done) | (simp; omega) | omega); (try simp [go_sem, k0_w1] at k0_w2); have l0_w2 := fun o => hb.frozen (p := ⟨w.heap.size, o, none⟩) (by first | (simp; done) | (simp; omega) | omega); (try simp [go_sem, l0_w1] at l0_w2); have k1_w2 := fun o => hb.cell (p := ⟨w.heap.size + 1, o, none⟩) (by first | (simp; done) | (simp; omega) | omega); (try simp [go_sem, k1_w1] at k1_w2); have l1_w2 := fun o => hb.frozen (p := ⟨w.heap.size + 1, o, none⟩) (by first | (simp; done) | (simp; omega) | omega); (try simp [go_sem, l1_w1] at l1_w2); have hb_w2 : Below w.heap.size w w2 := Below.trans (by exact (by repeat (first | exact Below.refl _ _ | assumption | (refine Below.setCell ?_ (by first | (simp; done) | (simp; omega) | omega) _) | (refine Below.alloc ?_ (by first | (simp; done) | (simp; omega) | omega) _) | (refine Below.drew ?_) | (refine Below.drewN' ?_ _)))) (hb.mono (by first | (simp; done) | (simp; omega) | omega)); obtain ⟨hc_w2, hf_w2⟩ := bcell hb_w2; clear hb)
  go_wp2_with fail
  exact bodyPost_ret (v := PV (parent, index + a)) (by simp [results, Try.results27, go_sem, *]) rfl ⟨rfl, (by repeat (first | exact Below.refl _ _ | assumption | (refine Below.setCell ?_ (by first | (simp; done) | (simp; omega) | omega) _) | (refine Below.alloc ?_ (by first | (simp; done) | (simp; omega) | omega) _) | (refine Below.drew ?_) | (refine Below.drewN' ?_ _)))⟩

set_option maxHeartbeats 1000000 in
theorem unwrapped_case2 (nd a id n parent index : Int) (w : World) (hF : fitB nd a [id, n, parent, index] = true) (hE : ¬ nd = id) (hA2 : nd = parent ∧ index < a) :
    Calls Try.prog 27 #[.agg #[.int .i64 nd, .int .i64 a], .int .i64 id, .int .i64 n, .int .i64 parent, .int .i64 index] w (Ret (PV (unwrappedP (nd, a) id n parent index)) w) := by
  have e : unwrappedP (nd, a) id n parent index = (nd, a + (n - 1)) := by simp only [unwrappedP]; rw [if_pos hF, if_neg hE, if_pos hA2]
  rw [e]; clear e
  have hd : (nd == id) = false := by simp [hE]
  clear hE
  obtain ⟨b1, b2, b3⟩ := fitB_all hF
  have c_id := b3 id (by simp)
  have c_index := b3 index (by simp)
  have c_n := b3 n (by simp)
  have c_parent := b3 parent (by simp)
  clear b3
  have HF := Lib.hid (fun (w : World) (b : Nat) (hb : b = w.heap.size) => fit_new nd a [id, n, parent, index] w _ hF (by simp) 4 rfl #[.int .i64 id, .int .i64 n, .int .i64 parent, .int .i64 index] rfl b hb)
  clear hF
  have HA2 := Lib.hid (fun (w : World) => above_any nd a parent index w)
  have hr2 : (nd == parent && decide (index < a)) = true := by simp [hA2]
  rw [hr2] at HA2; clear hr2 hA2
  go_enter Try.func27, Try.ntmps27
  go_wp2_with fail
  ((with_reducible refine (HF.out _ _ (by simp)).mono ?_); rintro e w1 ⟨rfl, hb⟩; have hz_w1 := hb.size; (try simp only [World.size_alloc, World.size_setCell, World.size_drew, size_drewN'] at hz_w1); have k0_w1 := fun o => hb.cell (p := ⟨w.heap.size, o, none⟩) (by first | (simp; done) | (simp; omega) | omega); (try simp [go_sem] at k0_w1); have l0_w1 := fun o => hb.frozen (p := ⟨w.heap.size, o, none⟩) (by first | (simp; done) | (simp; omega) | omega); (try simp [go_sem] at l0_w1); have k1_w1 := fun o => hb.cell (p := ⟨w.heap.size + 1, o, none⟩) (by first | (simp; done) | (simp; omega) | omega); (try simp [go_sem] at k1_w1); have l1_w1 := fun o => hb.frozen (p := ⟨w.heap.size + 1, o, none⟩) (by first | (simp; done) | (simp; omega) | omega); (try simp [go_sem] at l1_w1); have hb_w1 : Below w.heap.size w w1 := Below.trans (by exact (by repeat (first | exact Below.refl _ _ | assumption | (refine Below.setCell ?_ (by first | (simp; done) | (simp; omega) | omega) _) | (refine Below.alloc ?_ (by first | (simp; done) | (simp; omega) | omega) _) | (refine Below.drew ?_) | (refine Below.drewN' ?_ _)))) (hb.mono (by first | (simp; done) | (simp; omega) | omega)); obtain ⟨hc_w1, hf_w1⟩ := bcell hb_w1; clear hb)
  go_wp2_with fail
  ((with_reducible refine (HA2.out _).mono ?_); rintro e w2 ⟨rfl, hb⟩; have hz_w2 := hb.size; (try simp only [World.size_alloc, World.size_setCell, World.size_drew, size_drewN'] at hz_w2); have k0_w2 := fun o => hb.cell (p := ⟨w.heap.size, o, none⟩) (by first | (simp; done) | (simp; omega) | omega); (try simp [go_sem, k0_w1] at k0_w2); have l0_w2 := fun o => hb.frozen (p := ⟨w.heap.size, o, none⟩) (by first | (simp; done) | (simp; omega) | omega); (try simp [go_sem, l0_w1] at l0_w2); have k1_w2 := fun o => hb.cell (p := ⟨w.heap.size + 1, o, none⟩) (by first | (simp; done) | (simp; omega) | omega); (try simp [go_sem, k1_w1] at k1_w2); have l1_w2 := fun o => hb.frozen (p := ⟨w.heap.size + 1, o, none⟩) (by first | (simp; done) | (simp; omega) | omega); (try simp [go_sem, l1_w1] at l1_w2); have hb_w2 : Below w.heap.size w w2 := Below.trans (by exact (by repeat (first | exact Below.refl _ _ | assumption | (refine Below.setCell ?_ (by first | (simp; done) | (simp; omega) | omega) _) | (refine Below.alloc ?_ (by first | (simp; done) | (simp; omega) | omega) _) | (refine Below.drew ?_) | (refine Below.drewN' ?_ _)))) (hb.mono (by first | (simp; done) | (simp; omega) | omega)); obtain ⟨hc_w2, hf_w2⟩ := bcell hb_w2; clear hb)
  go_wp2_with fail
  exact bodyPost_ret (v := PV (nd, a + (n - 1))) (by simp [results, Try.results27, go_sem, *]) rfl ⟨rfl, (by repeat (first | exact Below.refl _ _ | assumption | (refine Below.setCell ?_ (by first | (simp; done) | (simp; omega) | omega) _) | (refine Below.alloc ?_ (by first | (simp; done) | (simp; omega) | omega) _) | (refine Below.drew ?_) | (refine Below.drewN' ?_ _)))⟩

set_option maxHeartbeats 1000000 in
theorem unwrapped_case3 (nd a id n parent index : Int) (w : World) (hF : fitB nd a [id, n, parent, index] = true) (hE : ¬ nd = id) (hA2 : ¬ (nd = parent ∧ index < a)) :
    Calls Try.prog 27 #[.agg #[.int .i64 nd, .int .i64 a], .int .i64 id, .int .i64 n, .int .i64 parent, .int .i64 index] w (Ret (PV (unwrappedP (nd, a) id n parent index)) w) := by
  have e : unwrappedP (nd, a) id n parent index = (nd, a) := by simp only [unwrappedP]; rw [if_pos hF, if_neg hE, if_neg hA2]
  rw [e]; clear e
  have hd : (nd == id) = false := by simp [hE]
  clear hE
  obtain ⟨b1, b2, b3⟩ := fitB_all hF
  have c_id := b3 id (by simp)
  have c_index := b3 index (by simp)
  have c_n := b3 n (by simp)
  have c_parent := b3 parent (by simp)
  clear b3
  have HF := Lib.hid (fun (w : World) (b : Nat) (hb : b = w.heap.size) => fit_new nd a [id, n, parent, index] w _ hF (by simp) 4 rfl #[.int .i64 id, .int .i64 n, .int .i64 parent, .int .i64 index] rfl b hb)
  clear hF
  have HA2 := Lib.hid (fun (w : World) => above_any nd a parent index w)
  have hr2 : (nd == parent && decide (index < a)) = false := by simp; omega
  rw [hr2] at HA2; clear hr2 hA2
  go_enter Try.func27, Try.ntmps27
  go_wp2_with fail
  ((with_reducible refine (HF.out _ _ (by simp)).mono ?_); rintro e w1 ⟨rfl, hb⟩; have hz_w1 := hb.size; (try simp only [World.size_alloc, World.size_setCell, World.size_drew, size_drewN'] at hz_w1); have k0_w1 := fun o => hb.cell (p := ⟨w.heap.size, o, none⟩) (by first | (simp; done) | (simp; omega) | omega); (try simp [go_sem] at k0_w1); have l0_w1 := fun o => hb.frozen (p := ⟨w.heap.size, o, none⟩) (by first | (simp; done) | (simp; omega) | omega); (try simp [go_sem] at l0_w1); have k1_w1 := fun o => hb.cell (p := ⟨w.heap.size + 1, o, none⟩) (by first | (simp; done) | (simp; omega) | omega); (try simp [go_sem] at k1_w1); have l1_w1 := fun o => hb.frozen (p := ⟨w.heap.size + 1, o, none⟩) (by first | (simp; done) | (simp; omega) | omega); (try simp [go_sem] at l1_w1); have hb_w1 : Below w.heap.size w w1 := Below.trans (by exact (by repeat (first | exact Below.refl _ _ | assumption | (refine Below.setCell ?_ (by first | (simp; done) | (simp; omega) | omega) _) | (refine Below.alloc ?_ (by first | (simp; done) | (simp; omega) | omega) _) | (refine Below.drew ?_) | (refine Below.drewN' ?_ _)))) (hb.mono (by first | (simp; done) | (simp; omega) | omega)); obtain ⟨hc_w1, hf_w1⟩ := bcell hb_w1; clear hb)
  go_wp2_with fail
  ((with_reducible refine (HA2.out _).mono ?_); rintro e w2 ⟨rfl, hb⟩; have hz_w2 := hb.size; (try simp only [World.size_alloc, World.size_setCell, World.size_drew, size_drewN'] at hz_w2); have k0_w2 := fun o => hb.cell (p := ⟨w.heap.size, o, none⟩) (by first | (simp; done) | (simp; omega) | omega); (try simp [go_sem, k0_w1] at k0_w2); have l0_w2 := fun o => hb.frozen (p := ⟨w.heap.size, o, none⟩) (by first | (simp; done) | (simp; omega) | omega); (try simp [go_sem, l0_w1] at l0_w2); have k1_w2 := fun o => hb.cell (p := ⟨w.heap.size + 1, o, none⟩) (by first | (simp; done) | (simp; omega) | omega); (try simp [go_sem, k1_w1] at k1_w2); have l1_w2 := fun o => hb.frozen (p := ⟨w.heap.size + 1, o, none⟩) (by first | (simp; done) | (simp; omega) | omega); (try simp [go_sem, l1_w1] at l1_w2); have hb_w2 : Below w.heap.size w w2 := Below.trans (by exact (by repeat (first | exact Below.refl _ _ | assumption | (refine Below.setCell ?_ (by first | (simp; done) | (simp; omega) | omega) _) | (refine Below.alloc ?_ (by first | (simp; done) | (simp; omega) | omega) _) | (refine Below.drew ?_) | (refine Below.drewN' ?_ _)))) (hb.mono (by first | (simp; done) | (simp; omega) | omega)); obtain ⟨hc_w2, hf_w2⟩ := bcell hb_w2; clear hb)
  go_wp2_with fail
  exact bodyPost_ret (v := PV (nd, a)) (by simp [results, Try.results27, go_sem, *]) rfl ⟨rfl, (by repeat (first | exact Below.refl _ _ | assumption | (refine Below.setCell ?_ (by first | (simp; done) | (simp; omega) | omega) _) | (refine Below.alloc ?_ (by first | (simp; done) | (simp; omega) | omega) _) | (refine Below.drew ?_) | (refine Below.drewN' ?_ _)))⟩

theorem unwrapped_any (nd a id n parent index : Int) (w : World) : Calls Try.prog 27 #[.agg #[.int .i64 nd, .int .i64 a], .int .i64 id, .int .i64 n, .int .i64 parent, .int .i64 index] w (Ret (PV (unwrappedP (nd, a) id n parent index)) w) := by
  cases hF : fitB nd a [id, n, parent, index]
  · exact unwrapped_case0 nd a id n parent index w hF
  · by_cases hE : nd = id
    · exact unwrapped_case1 nd a id n parent index w hF hE
    · by_cases hA : nd = parent ∧ index < a
      · exact unwrapped_case2 nd a id n parent index w hF hE hA
      · exact unwrapped_case3 nd a id n parent index w hF hE hA

def movedP (p : Int × Int) (src k dst index : Int) : Int × Int :=
  if fitB p.1 p.2 [src, k, dst, index] = true then insertedP (removedP p src k false) dst index 1 else p

set_option maxHeartbeats 1000000 in
theorem moved_case0 (nd a src k dst index : Int) (w : World) (hF : fitB nd a [src, k, dst, index] = false) :
    Calls Try.prog 25 #[.agg #[.int .i64 nd, .int .i64 a], .int .i64 src, .int .i64 k, .int .i64 dst, .int .i64 index] w (Ret (PV (movedP (nd, a) src k dst index)) w) := by
  have e : movedP (nd, a) src k dst index = (nd, a) := by simp only [movedP]; rw [if_neg (by simp [hF])]
  rw [e]; clear e
  have HF := Lib.hid (fun (w : World) (b : Nat) (hb : b = w.heap.size) => fit_new nd a [src, k, dst, index] w _ hF (by simp) 4 rfl #[.int .i64 src, .int .i64 k, .int .i64 dst, .int .i64 index] rfl b hb)
  clear hF
  go_enter Try.func25, Try.ntmps25
  go_wp2_with fail
  ((with_reducible refine (HF.out _ _ (by simp)).mono ?_); rintro e w1 ⟨rfl, hb⟩; have hz_w1 := hb.size; (try simp only [World.size_alloc, World.size_setCell, World.size_drew, size_drewN'] at hz_w1); have k0_w1 := fun o => hb.cell (p := ⟨w.heap.size, o, none⟩) (by first | (simp; done) | (simp; omega) | omega); (try simp [go_sem] at k0_w1); have l0_w1 := fun o => hb.frozen (p := ⟨w.heap.size, o, none⟩) (by first | (simp; done) | (simp; omega) | omega); (try simp [go_sem] at l0_w1); have k1_w1 := fun o => hb.cell (p := ⟨w.heap.size + 1, o, none⟩) (by first | (simp; done) | (simp; omega) | omega); (try simp [go_sem] at k1_w1); have l1_w1 := fun o => hb.frozen (p := ⟨w.heap.size + 1, o, none⟩) (by first | (simp; done) | (simp; omega) | omega); (try simp [go_sem] at l1_w1); have hb_w1 : Below w.heap.size w w1 := Below.trans (by exact (by repeat (first | exact Below.refl _ _ | assumption | (refine Below.setCell ?_ (by first | (simp; done) | (simp; omega) | omega) _) | (refine Below.alloc ?_ (by first | (simp; done) | (simp; omega) | omega) _) | (refine Below.drew ?_) | (refine Below.drewN' ?_ _)))) (hb.mono (by first | (simp; done) | (simp; omega) | omega)); obtain ⟨hc_w1, hf_w1⟩ := bcell hb_w1; clear hb)
  go_wp2_with fail
  exact bodyPost_ret (v := PV (nd, a)) (by simp [results, Try.results25, go_sem, *]) rfl ⟨rfl, (by repeat (first | exact Below.refl _ _ | assumption | (refine Below.setCell ?_ (by first | (simp; done) | (simp; omega) | omega) _) | (refine Below.alloc ?_ (by first | (simp; done) | (simp; omega) | omega) _) | (refine Below.drew ?_) | (refine Below.drewN' ?_ _)))⟩

set_option maxHeartbeats 1000000 in
theorem moved_case1 (nd a src k dst index : Int) (w : World) (hF : fitB nd a [src, k, dst, index] = true) :
    Calls Try.prog 25 #[.agg #[.int .i64 nd, .int .i64 a], .int .i64 src, .int .i64 k, .int .i64 dst, .int .i64 index] w (Ret (PV (movedP (nd, a) src k dst index)) w) := by
  have e : movedP (nd, a) src k dst index = (insertedP (removedP (nd, a) src k false) dst index 1) := by simp only [movedP]; rw [if_pos hF]
  rw [e]; clear e
  have HR := Lib.hid (fun w => removed_any nd a src k false w)
  generalize removedP (nd, a) src k false = q at HR ⊢
  obtain ⟨q1, q2⟩ := q
  have HI := Lib.hid (fun w => inserted_any q1 q2 dst index 1 w)
  generalize insertedP (q1, q2) dst index 1 = r at HI ⊢
  obtain ⟨b1, b2, b3⟩ := fitB_all hF
  have c_dst := b3 dst (by simp)
  have c_index := b3 index (by simp)
  have c_k := b3 k (by simp)
  have c_src := b3 src (by simp)
  clear b3
  have HF := Lib.hid (fun (w : World) (b : Nat) (hb : b = w.heap.size) => fit_new nd a [src, k, dst, index] w _ hF (by simp) 4 rfl #[.int .i64 src, .int .i64 k, .int .i64 dst, .int .i64 index] rfl b hb)
  clear hF
  go_enter Try.func25, Try.ntmps25
  go_wp2_with fail
  ((with_reducible refine (HF.out _ _ (by simp)).mono ?_); rintro e w1 ⟨rfl, hb⟩; have hz_w1 := hb.size; (try simp only [World.size_alloc, World.size_setCell, World.size_drew, size_drewN'] at hz_w1); have k0_w1 := fun o => hb.cell (p := ⟨w.heap.size, o, none⟩) (by first | (simp; done) | (simp; omega) | omega); (try simp [go_sem] at k0_w1); have l0_w1 := fun o => hb.frozen (p := ⟨w.heap.size, o, none⟩) (by first | (simp; done) | (simp; omega) | omega); (try simp [go_sem] at l0_w1); have k1_w1 := fun o => hb.cell (p := ⟨w.heap.size + 1, o, none⟩) (by first | (simp; done) | (simp; omega) | omega); (try simp [go_sem] at k1_w1); have l1_w1 := fun o => hb.frozen (p := ⟨w.heap.size + 1, o, none⟩) (by first | (simp; done) | (simp; omega) | omega); (try simp [go_sem] at l1_w1); have hb_w1 : Below w.heap.size w w1 := Below.trans (by exact (by repeat (first | exact Below.refl _ _ | assumption | (refine Below.setCell ?_ (by first | (simp; done) | (simp; omega) | omega) _) | (refine Below.alloc ?_ (by first | (simp; done) | (simp; omega) | omega) _) | (refine Below.drew ?_) | (refine Below.drewN' ?_ _)))) (hb.mono (by first | (simp; done) | (simp; omega) | omega)); obtain ⟨hc_w1, hf_w1⟩ := bcell hb_w1; clear hb)
  go_wp2_with fail
  ((with_reducible refine (HR.out _).mono ?_); rintro e w2 ⟨rfl, hb⟩; have hz_w2 := hb.size; (try simp only [World.size_alloc, World.size_setCell, World.size_drew, size_drewN'] at hz_w2); have k0_w2 := fun o => hb.cell (p := ⟨w.heap.size, o, none⟩) (by first | (simp; done) | (simp; omega) | omega); (try simp [go_sem, k0_w1] at k0_w2); have l0_w2 := fun o => hb.frozen (p := ⟨w.heap.size, o, none⟩) (by first | (simp; done) | (simp; omega) | omega); (try simp [go_sem, l0_w1] at l0_w2); have k1_w2 := fun o => hb.cell (p := ⟨w.heap.size + 1, o, none⟩) (by first | (simp; done) | (simp; omega) | omega); (try simp [go_sem, k1_w1] at k1_w2); have l1_w2 := fun o => hb.frozen (p := ⟨w.heap.size + 1, o, none⟩) (by first | (simp; done) | (simp; omega) | omega); (try simp [go_sem, l1_w1] at l1_w2); have hb_w2 : Below w.heap.size w w2 := Below.trans (by exact (by repeat (first | exact Below.refl _ _ | assumption | (refine Below.setCell ?_ (by first | (simp; done) | (simp; omega) | omega) _) | (refine Below.alloc ?_ (by first | (simp; done) | (simp; omega) | omega) _) | (refine Below.drew ?_) | (refine Below.drewN' ?_ _)))) (hb.mono (by first | (simp; done) | (simp; omega) | omega)); obtain ⟨hc_w2, hf_w2⟩ := bcell hb_w2; clear hb)
  go_wp2_with fail
  ((with_reducible refine (HI.out _).mono ?_); rintro e w3 ⟨rfl, hb⟩; have hz_w3 := hb.size; (try simp only [World.size_alloc, World.size_setCell, World.size_drew, size_drewN'] at hz_w3); have k0_w3 := fun o => hb.cell (p := ⟨w.heap.size, o, none⟩) (by first | (simp; done) | (simp; omega) | omega); (try simp [go_sem, k0_w2] at k0_w3); have l0_w3 := fun o => hb.frozen (p := ⟨w.heap.size, o, none⟩) (by first | (simp; done) | (simp; omega) | omega); (try simp [go_sem, l0_w2] at l0_w3); have k1_w3 := fun o => hb.cell (p := ⟨w.heap.size + 1, o, none⟩) (by first | (simp; done) | (simp; omega) | omega); (try simp [go_sem, k1_w2] at k1_w3); have l1_w3 := fun o => hb.frozen (p := ⟨w.heap.size + 1, o, none⟩) (by first | (simp; done) | (simp; omega) | omega); (try simp [go_sem, l1_w2] at l1_w3); have hb_w3 : Below w.heap.size w w3 := Below.trans (by exact (by repeat (first | exact Below.refl _ _ | assumption | (refine Below.setCell ?_ (by first | (simp; done) | (simp; omega) | omega) _) | (refine Below.alloc ?_ (by first | (simp; done) | (simp; omega) | omega) _) | (refine Below.drew ?_) | (refine Below.drewN' ?_ _)))) (hb.mono (by first | (simp; done) | (simp; omega) | omega)); obtain ⟨hc_w3, hf_w3⟩ := bcell hb_w3; clear hb)
  go_wp2_with fail
  exact bodyPost_ret (v := PV r) (by simp [results, Try.results25, go_sem, *]) rfl ⟨rfl, (by repeat (first | exact Below.refl _ _ | assumption | (refine Below.setCell ?_ (by first | (simp; done) | (simp; omega) | omega) _) | (refine Below.alloc ?_ (by first | (simp; done) | (simp; omega) | omega) _) | (refine Below.drew ?_) | (refine Below.drewN' ?_ _)))⟩

theorem moved_any (nd a src k dst index : Int) (w : World) : Calls Try.prog 25 #[.agg #[.int .i64 nd, .int .i64 a], .int .i64 src, .int .i64 k, .int .i64 dst, .int .i64 index] w (Ret (PV (movedP (nd, a) src k dst index)) w) := by
  cases hF : fitB nd a [src, k, dst, index]
  · exact moved_case0 nd a src k dst index w hF
  · exact moved_case1 nd a src k dst index w hF

end Go.Proofs.Ytnnjlpkjpbbklaa
