/-
  What package points computes: Inserted, Removed, Replaced, cut, SplitText, Split, JoinText, Wrapped, Unwrapped, Moved. Conditions: none.
-/
import Derived.Test.YtnnjlpkjpbbklaaPts
import Derived.Deep.QuietTactic
import Derived.BigQuiet
import Derived.Deep.RegionWith
set_option linter.unusedVariables false
set_option linter.unusedSimpArgs false
namespace Go.Proofs.Ytnnjlpkjpbbklaa
open Go.RowKit

def insertedP (p : Int × Int) (parent k n : Int) : Int × Int :=
  if fitB p.1 p.2 [parent, k, n] = true then (if p.1 = parent ∧ k < p.2 then (p.1, p.2 + n) else p) else p

set_option maxHeartbeats 1000000 in
theorem inserted_case0 (nd a parent k n : Int) (w : World) (hF : fitB nd a [parent, k, n] = false) :
    Calls Try.prog 22 #[.agg #[.int .i64 nd, .int .i64 a], .int .i64 parent, .int .i64 k, .int .i64 n] w (Ret (PV (insertedP (nd, a) parent k n)) w) := by
  have e : insertedP (nd, a) parent k n = (nd, a) := by simp only [insertedP]; rw [if_neg (by simp [hF])]
  rw [e]; clear e
  have HF := Lib.hid (fun (w : World) (b : Nat) (hb : b = w.heap.size) => fit_new nd a [parent, k, n] w _ hF (by simp) 3 rfl #[.int .i64 parent, .int .i64 k, .int .i64 n] rfl b hb)
  clear hF
  go_enter Try.func22, Try.ntmps22
  go_wp2_with fail
  ((with_reducible refine (HF.out _ _ (by simp)).mono ?_); rintro e w1 ⟨rfl, hb⟩; have hz_w1 := hb.size; (try simp only [World.size_alloc, World.size_setCell, World.size_drew, size_drewN'] at hz_w1); have k0_w1 := fun o => hb.cell (p := ⟨w.heap.size, o, none⟩) (by first | (simp; done) | (simp; omega) | omega); (try simp [go_sem] at k0_w1); have l0_w1 := fun o => hb.frozen (p := ⟨w.heap.size, o, none⟩) (by first | (simp; done) | (simp; omega) | omega); (try simp [go_sem] at l0_w1); have k1_w1 := fun o => hb.cell (p := ⟨w.heap.size + 1, o, none⟩) (by first | (simp; done) | (simp; omega) | omega); (try simp [go_sem] at k1_w1); have l1_w1 := fun o => hb.frozen (p := ⟨w.heap.size + 1, o, none⟩) (by first | (simp; done) | (simp; omega) | omega); (try simp [go_sem] at l1_w1); have hb_w1 : Below w.heap.size w w1 := Below.trans (by exact (by repeat (first | exact Below.refl _ _ | assumption | (refine Below.setCell ?_ (by first | (simp; done) | (simp; omega) | omega) _) | (refine Below.alloc ?_ (by first | (simp; done) | (simp; omega) | omega) _) | (refine Below.drew ?_) | (refine Below.drewN' ?_ _)))) (hb.mono (by first | (simp; done) | (simp; omega) | omega)); obtain ⟨hc_w1, hf_w1⟩ := bcell hb_w1; clear hb)
  go_wp2_with fail
  exact bodyPost_ret (v := PV (nd, a)) (by simp [results, Try.results22, go_sem, *]) rfl ⟨rfl, (by repeat (first | exact Below.refl _ _ | assumption | (refine Below.setCell ?_ (by first | (simp; done) | (simp; omega) | omega) _) | (refine Below.alloc ?_ (by first | (simp; done) | (simp; omega) | omega) _) | (refine Below.drew ?_) | (refine Below.drewN' ?_ _)))⟩

set_option maxHeartbeats 1000000 in
theorem inserted_case1 (nd a parent k n : Int) (w : World) (hF : fitB nd a [parent, k, n] = true) (hA2 : nd = parent ∧ k < a) :
    Calls Try.prog 22 #[.agg #[.int .i64 nd, .int .i64 a], .int .i64 parent, .int .i64 k, .int .i64 n] w (Ret (PV (insertedP (nd, a) parent k n)) w) := by
  have e : insertedP (nd, a) parent k n = (nd, a + n) := by simp only [insertedP]; rw [if_pos hF, if_pos hA2]
  rw [e]; clear e
  obtain ⟨b1, b2, b3⟩ := fitB_all hF
  have c_k := b3 k (by simp)
  have c_n := b3 n (by simp)
  have c_parent := b3 parent (by simp)
  clear b3
  have HF := Lib.hid (fun (w : World) (b : Nat) (hb : b = w.heap.size) => fit_new nd a [parent, k, n] w _ hF (by simp) 3 rfl #[.int .i64 parent, .int .i64 k, .int .i64 n] rfl b hb)
  clear hF
  have HA2 := Lib.hid (fun (w : World) => above_any nd a parent k w)
  have hr2 : (nd == parent && decide (k < a)) = true := by simp [hA2]
  rw [hr2] at HA2; clear hr2 hA2
  go_enter Try.func22, Try.ntmps22
  go_wp2_with fail
  ((with_reducible refine (HF.out _ _ (by simp)).mono ?_); rintro e w1 ⟨rfl, hb⟩; have hz_w1 := hb.size; (try simp only [World.size_alloc, World.size_setCell, World.size_drew, size_drewN'] at hz_w1); have k0_w1 := fun o => hb.cell (p := ⟨w.heap.size, o, none⟩) (by first | (simp; done) | (simp; omega) | omega); (try simp [go_sem] at k0_w1); have l0_w1 := fun o => hb.frozen (p := ⟨w.heap.size, o, none⟩) (by first | (simp; done) | (simp; omega) | omega); (try simp [go_sem] at l0_w1); have k1_w1 := fun o => hb.cell (p := ⟨w.heap.size + 1, o, none⟩) (by first | (simp; done) | (simp; omega) | omega); (try simp [go_sem] at k1_w1); have l1_w1 := fun o => hb.frozen (p := ⟨w.heap.size + 1, o, none⟩) (by first | (simp; done) | (simp; omega) | omega); (try simp [go_sem] at l1_w1); have hb_w1 : Below w.heap.size w w1 := Below.trans (by exact (by repeat (first | exact Below.refl _ _ | assumption | (refine Below.setCell ?_ (by first | (simp; done) | (simp; omega) | omega) _) | (refine Below.alloc ?_ (by first | (simp; done) | (simp; omega) | omega) _) | (refine Below.drew ?_) | (refine Below.drewN' ?_ _)))) (hb.mono (by first | (simp; done) | (simp; omega) | omega)); obtain ⟨hc_w1, hf_w1⟩ := bcell hb_w1; clear hb)
  go_wp2_with fail
  ((with_reducible refine (HA2.out _).mono ?_); rintro e w2 ⟨rfl, hb⟩; have hz_w2 := hb.size; (try simp only [World.size_alloc, World.size_setCell, World.size_drew, size_drewN'] at hz_w2); have k0_w2 := fun o => hb.cell (p := ⟨w.heap.size, o, none⟩) (by first | (simp; done) | (simp; omega) | omega); (try simp [go_sem, k0_w1] at k0_w2); have l0_w2 := fun o => hb.frozen (p := ⟨w.heap.size, o, none⟩) (by first | (simp; done) | (simp; omega) | omega); (try simp [go_sem, l0_w1] at l0_w2); have k1_w2 := fun o => hb.cell (p := ⟨w.heap.size + 1, o, none⟩) (by first | (simp; done) | (simp; omega) | omega); (try simp [go_sem, k1_w1] at k1_w2); have l1_w2 := fun o => hb.frozen (p := ⟨w.heap.size + 1, o, none⟩) (by first | (simp; done) | (simp; omega) | omega); (try simp [go_sem, l1_w1] at l1_w2); have hb_w2 : Below w.heap.size w w2 := Below.trans (by exact (by repeat (first | exact Below.refl _ _ | assumption | (refine Below.setCell ?_ (by first | (simp; done) | (simp; omega) | omega) _) | (refine Below.alloc ?_ (by first | (simp; done) | (simp; omega) | omega) _) | (refine Below.drew ?_) | (refine Below.drewN' ?_ _)))) (hb.mono (by first | (simp; done) | (simp; omega) | omega)); obtain ⟨hc_w2, hf_w2⟩ := bcell hb_w2; clear hb)
  go_wp2_with fail
  exact bodyPost_ret (v := PV (nd, a + n)) (by simp [results, Try.results22, go_sem, *]) rfl ⟨rfl, (by repeat (first | exact Below.refl _ _ | assumption | (refine Below.setCell ?_ (by first | (simp; done) | (simp; omega) | omega) _) | (refine Below.alloc ?_ (by first | (simp; done) | (simp; omega) | omega) _) | (refine Below.drew ?_) | (refine Below.drewN' ?_ _)))⟩

set_option maxHeartbeats 1000000 in
theorem inserted_case2 (nd a parent k n : Int) (w : World) (hF : fitB nd a [parent, k, n] = true) (hA2 : ¬ (nd = parent ∧ k < a)) :
    Calls Try.prog 22 #[.agg #[.int .i64 nd, .int .i64 a], .int .i64 parent, .int .i64 k, .int .i64 n] w (Ret (PV (insertedP (nd, a) parent k n)) w) := by
  have e : insertedP (nd, a) parent k n = (nd, a) := by simp only [insertedP]; rw [if_pos hF, if_neg hA2]
  rw [e]; clear e
  obtain ⟨b1, b2, b3⟩ := fitB_all hF
  have c_k := b3 k (by simp)
  have c_n := b3 n (by simp)
  have c_parent := b3 parent (by simp)
  clear b3
  have HF := Lib.hid (fun (w : World) (b : Nat) (hb : b = w.heap.size) => fit_new nd a [parent, k, n] w _ hF (by simp) 3 rfl #[.int .i64 parent, .int .i64 k, .int .i64 n] rfl b hb)
  clear hF
  have HA2 := Lib.hid (fun (w : World) => above_any nd a parent k w)
  have hr2 : (nd == parent && decide (k < a)) = false := by simp; omega
  rw [hr2] at HA2; clear hr2 hA2
  go_enter Try.func22, Try.ntmps22
  go_wp2_with fail
  ((with_reducible refine (HF.out _ _ (by simp)).mono ?_); rintro e w1 ⟨rfl, hb⟩; have hz_w1 := hb.size; (try simp only [World.size_alloc, World.size_setCell, World.size_drew, size_drewN'] at hz_w1); have k0_w1 := fun o => hb.cell (p := ⟨w.heap.size, o, none⟩) (by first | (simp; done) | (simp; omega) | omega); (try simp [go_sem] at k0_w1); have l0_w1 := fun o => hb.frozen (p := ⟨w.heap.size, o, none⟩) (by first | (simp; done) | (simp; omega) | omega); (try simp [go_sem] at l0_w1); have k1_w1 := fun o => hb.cell (p := ⟨w.heap.size + 1, o, none⟩) (by first | (simp; done) | (simp; omega) | omega); (try simp [go_sem] at k1_w1); have l1_w1 := fun o => hb.frozen (p := ⟨w.heap.size + 1, o, none⟩) (by first | (simp; done) | (simp; omega) | omega); (try simp [go_sem] at l1_w1); have hb_w1 : Below w.heap.size w w1 := Below.trans (by exact (by repeat (first | exact Below.refl _ _ | assumption | (refine Below.setCell ?_ (by first | (simp; done) | (simp; omega) | omega) _) | (refine Below.alloc ?_ (by first | (simp; done) | (simp; omega) | omega) _) | (refine Below.drew ?_) | (refine Below.drewN' ?_ _)))) (hb.mono (by first | (simp; done) | (simp; omega) | omega)); obtain ⟨hc_w1, hf_w1⟩ := bcell hb_w1; clear hb)
  go_wp2_with fail
  ((with_reducible refine (HA2.out _).mono ?_); rintro e w2 ⟨rfl, hb⟩; have hz_w2 := hb.size; (try simp only [World.size_alloc, World.size_setCell, World.size_drew, size_drewN'] at hz_w2); have k0_w2 := fun o => hb.cell (p := ⟨w.heap.size, o, none⟩) (by first | (simp; done) | (simp; omega) | omega); (try simp [go_sem, k0_w1] at k0_w2); have l0_w2 := fun o => hb.frozen (p := ⟨w.heap.size, o, none⟩) (by first | (simp; done) | (simp; omega) | omega); (try simp [go_sem, l0_w1] at l0_w2); have k1_w2 := fun o => hb.cell (p := ⟨w.heap.size + 1, o, none⟩) (by first | (simp; done) | (simp; omega) | omega); (try simp [go_sem, k1_w1] at k1_w2); have l1_w2 := fun o => hb.frozen (p := ⟨w.heap.size + 1, o, none⟩) (by first | (simp; done) | (simp; omega) | omega); (try simp [go_sem, l1_w1] at l1_w2); have hb_w2 : Below w.heap.size w w2 := Below.trans (by exact (by repeat (first | exact Below.refl _ _ | assumption | (refine Below.setCell ?_ (by first | (simp; done) | (simp; omega) | omega) _) | (refine Below.alloc ?_ (by first | (simp; done) | (simp; omega) | omega) _) | (refine Below.drew ?_) | (refine Below.drewN' ?_ _)))) (hb.mono (by first | (simp; done) | (simp; omega) | omega)); obtain ⟨hc_w2, hf_w2⟩ := bcell hb_w2; clear hb)
  go_wp2_with fail
  exact bodyPost_ret (v := PV (nd, a)) (by simp [results, Try.results22, go_sem, *]) rfl ⟨rfl, (by repeat (first | exact Below.refl _ _ | assumption | (refine Below.setCell ?_ (by first | (simp; done) | (simp; omega) | omega) _) | (refine Below.alloc ?_ (by first | (simp; done) | (simp; omega) | omega) _) | (refine Below.drew ?_) | (refine Below.drewN' ?_ _)))⟩

theorem inserted_any (nd a parent k n : Int) (w : World) : Calls Try.prog 22 #[.agg #[.int .i64 nd, .int .i64 a], .int .i64 parent, .int .i64 k, .int .i64 n] w (Ret (PV (insertedP (nd, a) parent k n)) w) := by
  cases hF : fitB nd a [parent, k, n]
  · exact inserted_case0 nd a parent k n w hF
  · by_cases hA : nd = parent ∧ k < a
    · exact inserted_case1 nd a parent k n w hF hA
    · exact inserted_case2 nd a parent k n w hF hA

def removedP (p : Int × Int) (parent k : Int) (inside : Bool) : Int × Int :=
  if fitB p.1 p.2 [parent, k] = true then (if inside = true then (parent, k) else if p.1 = parent ∧ k < p.2 then (p.1, p.2 - 1) else p) else p

set_option maxHeartbeats 1000000 in
theorem removed_case0 (nd a parent k : Int) (inside : Bool) (w : World) (hF : fitB nd a [parent, k] = false) :
    Calls Try.prog 23 #[.agg #[.int .i64 nd, .int .i64 a], .int .i64 parent, .int .i64 k, .bool inside] w (Ret (PV (removedP (nd, a) parent k inside)) w) := by
  have e : removedP (nd, a) parent k inside = (nd, a) := by simp only [removedP]; rw [if_neg (by simp [hF])]
  rw [e]; clear e
  have HF := Lib.hid (fun (w : World) (b : Nat) (hb : b = w.heap.size) => fit_new nd a [parent, k] w _ hF (by simp) 2 rfl #[.int .i64 parent, .int .i64 k] rfl b hb)
  clear hF
  go_enter Try.func23, Try.ntmps23
  go_wp2_with fail
  ((with_reducible refine (HF.out _ _ (by simp)).mono ?_); rintro e w1 ⟨rfl, hb⟩; have hz_w1 := hb.size; (try simp only [World.size_alloc, World.size_setCell, World.size_drew, size_drewN'] at hz_w1); have k0_w1 := fun o => hb.cell (p := ⟨w.heap.size, o, none⟩) (by first | (simp; done) | (simp; omega) | omega); (try simp [go_sem] at k0_w1); have l0_w1 := fun o => hb.frozen (p := ⟨w.heap.size, o, none⟩) (by first | (simp; done) | (simp; omega) | omega); (try simp [go_sem] at l0_w1); have k1_w1 := fun o => hb.cell (p := ⟨w.heap.size + 1, o, none⟩) (by first | (simp; done) | (simp; omega) | omega); (try simp [go_sem] at k1_w1); have l1_w1 := fun o => hb.frozen (p := ⟨w.heap.size + 1, o, none⟩) (by first | (simp; done) | (simp; omega) | omega); (try simp [go_sem] at l1_w1); have hb_w1 : Below w.heap.size w w1 := Below.trans (by exact (by repeat (first | exact Below.refl _ _ | assumption | (refine Below.setCell ?_ (by first | (simp; done) | (simp; omega) | omega) _) | (refine Below.alloc ?_ (by first | (simp; done) | (simp; omega) | omega) _) | (refine Below.drew ?_) | (refine Below.drewN' ?_ _)))) (hb.mono (by first | (simp; done) | (simp; omega) | omega)); obtain ⟨hc_w1, hf_w1⟩ := bcell hb_w1; clear hb)
  go_wp2_with fail
  exact bodyPost_ret (v := PV (nd, a)) (by simp [results, Try.results23, go_sem, *]) rfl ⟨rfl, (by repeat (first | exact Below.refl _ _ | assumption | (refine Below.setCell ?_ (by first | (simp; done) | (simp; omega) | omega) _) | (refine Below.alloc ?_ (by first | (simp; done) | (simp; omega) | omega) _) | (refine Below.drew ?_) | (refine Below.drewN' ?_ _)))⟩

set_option maxHeartbeats 1000000 in
theorem removed_case1 (nd a parent k : Int) (inside : Bool) (w : World) (hF : fitB nd a [parent, k] = true) (hI : inside = true) :
    Calls Try.prog 23 #[.agg #[.int .i64 nd, .int .i64 a], .int .i64 parent, .int .i64 k, .bool inside] w (Ret (PV (removedP (nd, a) parent k inside)) w) := by
  have e : removedP (nd, a) parent k inside = (parent, k) := by simp only [removedP]; rw [if_pos hF, if_pos hI]
  rw [e]; clear e
  subst hI
  obtain ⟨b1, b2, b3⟩ := fitB_all hF
  have c_k := b3 k (by simp)
  have c_parent := b3 parent (by simp)
  clear b3
  have HF := Lib.hid (fun (w : World) (b : Nat) (hb : b = w.heap.size) => fit_new nd a [parent, k] w _ hF (by simp) 2 rfl #[.int .i64 parent, .int .i64 k] rfl b hb)
  clear hF
  go_enter Try.func23, Try.ntmps23
  go_wp2_with fail
  ((with_reducible refine (HF.out _ _ (by simp)).mono ?_); rintro e w1 ⟨rfl, hb⟩; have hz_w1 := hb.size; (try simp only [World.size_alloc, World.size_setCell, World.size_drew, size_drewN'] at hz_w1); have k0_w1 := fun o => hb.cell (p := ⟨w.heap.size, o, none⟩) (by first | (simp; done) | (simp; omega) | omega); (try simp [go_sem] at k0_w1); have l0_w1 := fun o => hb.frozen (p := ⟨w.heap.size, o, none⟩) (by first | (simp; done) | (simp; omega) | omega); (try simp [go_sem] at l0_w1); have k1_w1 := fun o => hb.cell (p := ⟨w.heap.size + 1, o, none⟩) (by first | (simp; done) | (simp; omega) | omega); (try simp [go_sem] at k1_w1); have l1_w1 := fun o => hb.frozen (p := ⟨w.heap.size + 1, o, none⟩) (by first | (simp; done) | (simp; omega) | omega); (try simp [go_sem] at l1_w1); have hb_w1 : Below w.heap.size w w1 := Below.trans (by exact (by repeat (first | exact Below.refl _ _ | assumption | (refine Below.setCell ?_ (by first | (simp; done) | (simp; omega) | omega) _) | (refine Below.alloc ?_ (by first | (simp; done) | (simp; omega) | omega) _) | (refine Below.drew ?_) | (refine Below.drewN' ?_ _)))) (hb.mono (by first | (simp; done) | (simp; omega) | omega)); obtain ⟨hc_w1, hf_w1⟩ := bcell hb_w1; clear hb)
  go_wp2_with fail
  ((with_reducible refine (to_any _ _ _).mono ?_); rintro e w2 ⟨rfl, hb⟩; have hz_w2 := hb.size; (try simp only [World.size_alloc, World.size_setCell, World.size_drew, size_drewN'] at hz_w2); have k0_w2 := fun o => hb.cell (p := ⟨w.heap.size, o, none⟩) (by first | (simp; done) | (simp; omega) | omega); (try simp [go_sem, k0_w1] at k0_w2); have l0_w2 := fun o => hb.frozen (p := ⟨w.heap.size, o, none⟩) (by first | (simp; done) | (simp; omega) | omega); (try simp [go_sem, l0_w1] at l0_w2); have k1_w2 := fun o => hb.cell (p := ⟨w.heap.size + 1, o, none⟩) (by first | (simp; done) | (simp; omega) | omega); (try simp [go_sem, k1_w1] at k1_w2); have l1_w2 := fun o => hb.frozen (p := ⟨w.heap.size + 1, o, none⟩) (by first | (simp; done) | (simp; omega) | omega); (try simp [go_sem, l1_w1] at l1_w2); have hb_w2 : Below w.heap.size w w2 := Below.trans (by exact (by repeat (first | exact Below.refl _ _ | assumption | (refine Below.setCell ?_ (by first | (simp; done) | (simp; omega) | omega) _) | (refine Below.alloc ?_ (by first | (simp; done) | (simp; omega) | omega) _) | (refine Below.drew ?_) | (refine Below.drewN' ?_ _)))) (hb.mono (by first | (simp; done) | (simp; omega) | omega)); obtain ⟨hc_w2, hf_w2⟩ := bcell hb_w2; clear hb)
  go_wp2_with fail
  exact bodyPost_ret (v := PV (parent, k)) (by simp [results, Try.results23, go_sem, *]) rfl ⟨rfl, (by repeat (first | exact Below.refl _ _ | assumption | (refine Below.setCell ?_ (by first | (simp; done) | (simp; omega) | omega) _) | (refine Below.alloc ?_ (by first | (simp; done) | (simp; omega) | omega) _) | (refine Below.drew ?_) | (refine Below.drewN' ?_ _)))⟩

set_option maxHeartbeats 1000000 in
theorem removed_case2 (nd a parent k : Int) (inside : Bool) (w : World) (hF : fitB nd a [parent, k] = true) (hI : inside = false) (hA2 : nd = parent ∧ k < a) :
    Calls Try.prog 23 #[.agg #[.int .i64 nd, .int .i64 a], .int .i64 parent, .int .i64 k, .bool inside] w (Ret (PV (removedP (nd, a) parent k inside)) w) := by
  have e : removedP (nd, a) parent k inside = (nd, a - 1) := by simp only [removedP]; rw [if_pos hF, if_neg (by simp [hI]), if_pos hA2]
  rw [e]; clear e
  subst hI
  obtain ⟨b1, b2, b3⟩ := fitB_all hF
  have c_k := b3 k (by simp)
  have c_parent := b3 parent (by simp)
  clear b3
  have HF := Lib.hid (fun (w : World) (b : Nat) (hb : b = w.heap.size) => fit_new nd a [parent, k] w _ hF (by simp) 2 rfl #[.int .i64 parent, .int .i64 k] rfl b hb)
  clear hF
  have HA2 := Lib.hid (fun (w : World) => above_any nd a parent k w)
  have hr2 : (nd == parent && decide (k < a)) = true := by simp [hA2]
  rw [hr2] at HA2; clear hr2 hA2
  go_enter Try.func23, Try.ntmps23
  go_wp2_with fail
  ((with_reducible refine (HF.out _ _ (by simp)).mono ?_); rintro e w1 ⟨rfl, hb⟩; have hz_w1 := hb.size; (try simp only [World.size_alloc, World.size_setCell, World.size_drew, size_drewN'] at hz_w1); have k0_w1 := fun o => hb.cell (p := ⟨w.heap.size, o, none⟩) (by first | (simp; done) | (simp; omega) | omega); (try simp [go_sem] at k0_w1); have l0_w1 := fun o => hb.frozen (p := ⟨w.heap.size, o, none⟩) (by first | (simp; done) | (simp; omega) | omega); (try simp [go_sem] at l0_w1); have k1_w1 := fun o => hb.cell (p := ⟨w.heap.size + 1, o, none⟩) (by first | (simp; done) | (simp; omega) | omega); (try simp [go_sem] at k1_w1); have l1_w1 := fun o => hb.frozen (p := ⟨w.heap.size + 1, o, none⟩) (by first | (simp; done) | (simp; omega) | omega); (try simp [go_sem] at l1_w1); have hb_w1 : Below w.heap.size w w1 := Below.trans (by exact (by repeat (first | exact Below.refl _ _ | assumption | (refine Below.setCell ?_ (by first | (simp; done) | (simp; omega) | omega) _) | (refine Below.alloc ?_ (by first | (simp; done) | (simp; omega) | omega) _) | (refine Below.drew ?_) | (refine Below.drewN' ?_ _)))) (hb.mono (by first | (simp; done) | (simp; omega) | omega)); obtain ⟨hc_w1, hf_w1⟩ := bcell hb_w1; clear hb)
  go_wp2_with fail
  ((with_reducible refine (HA2.out _).mono ?_); rintro e w2 ⟨rfl, hb⟩; have hz_w2 := hb.size; (try simp only [World.size_alloc, World.size_setCell, World.size_drew, size_drewN'] at hz_w2); have k0_w2 := fun o => hb.cell (p := ⟨w.heap.size, o, none⟩) (by first | (simp; done) | (simp; omega) | omega); (try simp [go_sem, k0_w1] at k0_w2); have l0_w2 := fun o => hb.frozen (p := ⟨w.heap.size, o, none⟩) (by first | (simp; done) | (simp; omega) | omega); (try simp [go_sem, l0_w1] at l0_w2); have k1_w2 := fun o => hb.cell (p := ⟨w.heap.size + 1, o, none⟩) (by first | (simp; done) | (simp; omega) | omega); (try simp [go_sem, k1_w1] at k1_w2); have l1_w2 := fun o => hb.frozen (p := ⟨w.heap.size + 1, o, none⟩) (by first | (simp; done) | (simp; omega) | omega); (try simp [go_sem, l1_w1] at l1_w2); have hb_w2 : Below w.heap.size w w2 := Below.trans (by exact (by repeat (first | exact Below.refl _ _ | assumption | (refine Below.setCell ?_ (by first | (simp; done) | (simp; omega) | omega) _) | (refine Below.alloc ?_ (by first | (simp; done) | (simp; omega) | omega) _) | (refine Below.drew ?_) | (refine Below.drewN' ?_ _)))) (hb.mono (by first | (simp; done) | (simp; omega) | omega)); obtain ⟨hc_w2, hf_w2⟩ := bcell hb_w2; clear hb)
  go_wp2_with fail
  exact bodyPost_ret (v := PV (nd, a - 1)) (by simp [results, Try.results23, go_sem, *]) rfl ⟨rfl, (by repeat (first | exact Below.refl _ _ | assumption | (refine Below.setCell ?_ (by first | (simp; done) | (simp; omega) | omega) _) | (refine Below.alloc ?_ (by first | (simp; done) | (simp; omega) | omega) _) | (refine Below.drew ?_) | (refine Below.drewN' ?_ _)))⟩

set_option maxHeartbeats 1000000 in
theorem removed_case3 (nd a parent k : Int) (inside : Bool) (w : World) (hF : fitB nd a [parent, k] = true) (hI : inside = false) (hA2 : ¬ (nd = parent ∧ k < a)) :
    Calls Try.prog 23 #[.agg #[.int .i64 nd, .int .i64 a], .int .i64 parent, .int .i64 k, .bool inside] w (Ret (PV (removedP (nd, a) parent k inside)) w) := by
  have e : removedP (nd, a) parent k inside = (nd, a) := by simp only [removedP]; rw [if_pos hF, if_neg (by simp [hI]), if_neg hA2]
  rw [e]; clear e
  subst hI
  obtain ⟨b1, b2, b3⟩ := fitB_all hF
  have c_k := b3 k (by simp)
  have c_parent := b3 parent (by simp)
  clear b3
  have HF := Lib.hid (fun (w : World) (b : Nat) (hb : b = w.heap.size) => fit_new nd a [parent, k] w _ hF (by simp) 2 rfl #[.int .i64 parent, .int .i64 k] rfl b hb)
  clear hF
  have HA2 := Lib.hid (fun (w : World) => above_any nd a parent k w)
  have hr2 : (nd == parent && decide (k < a)) = false := by simp; omega
  rw [hr2] at HA2; clear hr2 hA2
  go_enter Try.func23, Try.ntmps23
  go_wp2_with fail
  ((with_reducible refine (HF.out _ _ (by simp)).mono ?_); rintro e w1 ⟨rfl, hb⟩; have hz_w1 := hb.size; (try simp only [World.size_alloc, World.size_setCell, World.size_drew, size_drewN'] at hz_w1); have k0_w1 := fun o => hb.cell (p := ⟨w.heap.size, o, none⟩) (by first | (simp; done) | (simp; omega) | omega); (try simp [go_sem] at k0_w1); have l0_w1 := fun o => hb.frozen (p := ⟨w.heap.size, o, none⟩) (by first | (simp; done) | (simp; omega) | omega); (try simp [go_sem] at l0_w1); have k1_w1 := fun o => hb.cell (p := ⟨w.heap.size + 1, o, none⟩) (by first | (simp; done) | (simp; omega) | omega); (try simp [go_sem] at k1_w1); have l1_w1 := fun o => hb.frozen (p := ⟨w.heap.size + 1, o, none⟩) (by first | (simp; done) | (simp; omega) | omega); (try simp [go_sem] at l1_w1); have hb_w1 : Below w.heap.size w w1 := Below.trans (by exact (by repeat (first | exact Below.refl _ _ | assumption | (refine Below.setCell ?_ (by first | (simp; done) | (simp; omega) | omega) _) | (refine Below.alloc ?_ (by first | (simp; done) | (simp; omega) | omega) _) | (refine Below.drew ?_) | (refine Below.drewN' ?_ _)))) (hb.mono (by first | (simp; done) | (simp; omega) | omega)); obtain ⟨hc_w1, hf_w1⟩ := bcell hb_w1; clear hb)
  go_wp2_with fail
  ((with_reducible refine (HA2.out _).mono ?_); rintro e w2 ⟨rfl, hb⟩; have hz_w2 := hb.size; (try simp only [World.size_alloc, World.size_setCell, World.size_drew, size_drewN'] at hz_w2); have k0_w2 := fun o => hb.cell (p := ⟨w.heap.size, o, none⟩) (by first | (simp; done) | (simp; omega) | omega); (try simp [go_sem, k0_w1] at k0_w2); have l0_w2 := fun o => hb.frozen (p := ⟨w.heap.size, o, none⟩) (by first | (simp; done) | (simp; omega) | omega); (try simp [go_sem, l0_w1] at l0_w2); have k1_w2 := fun o => hb.cell (p := ⟨w.heap.size + 1, o, none⟩) (by first | (simp; done) | (simp; omega) | omega); (try simp [go_sem, k1_w1] at k1_w2); have l1_w2 := fun o => hb.frozen (p := ⟨w.heap.size + 1, o, none⟩) (by first | (simp; done) | (simp; omega) | omega); (try simp [go_sem, l1_w1] at l1_w2); have hb_w2 : Below w.heap.size w w2 := Below.trans (by exact (by repeat (first | exact Below.refl _ _ | assumption | (refine Below.setCell ?_ (by first | (simp; done) | (simp; omega) | omega) _) | (refine Below.alloc ?_ (by first | (simp; done) | (simp; omega) | omega) _) | (refine Below.drew ?_) | (refine Below.drewN' ?_ _)))) (hb.mono (by first | (simp; done) | (simp; omega) | omega)); obtain ⟨hc_w2, hf_w2⟩ := bcell hb_w2; clear hb)
  go_wp2_with fail
  exact bodyPost_ret (v := PV (nd, a)) (by simp [results, Try.results23, go_sem, *]) rfl ⟨rfl, (by repeat (first | exact Below.refl _ _ | assumption | (refine Below.setCell ?_ (by first | (simp; done) | (simp; omega) | omega) _) | (refine Below.alloc ?_ (by first | (simp; done) | (simp; omega) | omega) _) | (refine Below.drew ?_) | (refine Below.drewN' ?_ _)))⟩

theorem removed_any (nd a parent k : Int) (inside : Bool) (w : World) : Calls Try.prog 23 #[.agg #[.int .i64 nd, .int .i64 a], .int .i64 parent, .int .i64 k, .bool inside] w (Ret (PV (removedP (nd, a) parent k inside)) w) := by
  cases hF : fitB nd a [parent, k]
  · exact removed_case0 nd a parent k inside w hF
  · cases hI : inside
    · by_cases hA : nd = parent ∧ k < a
      · exact removed_case2 nd a parent k false w hF rfl hA
      · exact removed_case3 nd a parent k false w hF rfl hA
    · exact removed_case1 nd a parent k true w hF rfl

def replacedP (p : Int × Int) (text k count n : Int) : Int × Int :=
  if fitB p.1 p.2 [text, k, count, n] = true then (if p.1 = text then (if k + count < p.2 then (text, p.2 + n - count) else if k < p.2 then (text, k) else p) else p) else p

set_option maxHeartbeats 1000000 in
theorem replaced_case0 (nd a text k count n : Int) (w : World) (hF : fitB nd a [text, k, count, n] = false) :
    Calls Try.prog 24 #[.agg #[.int .i64 nd, .int .i64 a], .int .i64 text, .int .i64 k, .int .i64 count, .int .i64 n] w (Ret (PV (replacedP (nd, a) text k count n)) w) := by
  have e : replacedP (nd, a) text k count n = (nd, a) := by simp only [replacedP]; rw [if_neg (by simp [hF])]
  rw [e]; clear e
  have HF := Lib.hid (fun (w : World) (b : Nat) (hb : b = w.heap.size) => fit_new nd a [text, k, count, n] w _ hF (by simp) 4 rfl #[.int .i64 text, .int .i64 k, .int .i64 count, .int .i64 n] rfl b hb)
  clear hF
  go_enter Try.func24, Try.ntmps24
  go_wp2_with fail
  ((with_reducible refine (HF.out _ _ (by simp)).mono ?_); rintro e w1 ⟨rfl, hb⟩; have hz_w1 := hb.size; (try simp only [World.size_alloc, World.size_setCell, World.size_drew, size_drewN'] at hz_w1); have k0_w1 := fun o => hb.cell (p := ⟨w.heap.size, o, none⟩) (by first | (simp; done) | (simp; omega) | omega); (try simp [go_sem] at k0_w1); have l0_w1 := fun o => hb.frozen (p := ⟨w.heap.size, o, none⟩) (by first | (simp; done) | (simp; omega) | omega); (try simp [go_sem] at l0_w1); have k1_w1 := fun o => hb.cell (p := ⟨w.heap.size + 1, o, none⟩) (by first | (simp; done) | (simp; omega) | omega); (try simp [go_sem] at k1_w1); have l1_w1 := fun o => hb.frozen (p := ⟨w.heap.size + 1, o, none⟩) (by first | (simp; done) | (simp; omega) | omega); (try simp [go_sem] at l1_w1); have hb_w1 : Below w.heap.size w w1 := Below.trans (by exact (by repeat (first | exact Below.refl _ _ | assumption | (refine Below.setCell ?_ (by first | (simp; done) | (simp; omega) | omega) _) | (refine Below.alloc ?_ (by first | (simp; done) | (simp; omega) | omega) _) | (refine Below.drew ?_) | (refine Below.drewN' ?_ _)))) (hb.mono (by first | (simp; done) | (simp; omega) | omega)); obtain ⟨hc_w1, hf_w1⟩ := bcell hb_w1; clear hb)
  go_wp2_with fail
  exact bodyPost_ret (v := PV (nd, a)) (by simp [results, Try.results24, go_sem, *]) rfl ⟨rfl, (by repeat (first | exact Below.refl _ _ | assumption | (refine Below.setCell ?_ (by first | (simp; done) | (simp; omega) | omega) _) | (refine Below.alloc ?_ (by first | (simp; done) | (simp; omega) | omega) _) | (refine Below.drew ?_) | (refine Below.drewN' ?_ _)))⟩

set_option maxHeartbeats 1000000 in
theorem replaced_case1 (nd a text k count n : Int) (w : World) (hF : fitB nd a [text, k, count, n] = true) (hE : ¬ nd = text) :
    Calls Try.prog 24 #[.agg #[.int .i64 nd, .int .i64 a], .int .i64 text, .int .i64 k, .int .i64 count, .int .i64 n] w (Ret (PV (replacedP (nd, a) text k count n)) w) := by
  have e : replacedP (nd, a) text k count n = (nd, a) := by simp only [replacedP]; rw [if_pos hF, if_neg hE]
  rw [e]; clear e
  have hd : (nd != text) = true := by simp [hE]
  clear hE
  obtain ⟨b1, b2, b3⟩ := fitB_all hF
  have c_count := b3 count (by simp)
  have c_k := b3 k (by simp)
  have c_n := b3 n (by simp)
  have c_text := b3 text (by simp)
  clear b3
  have HF := Lib.hid (fun (w : World) (b : Nat) (hb : b = w.heap.size) => fit_new nd a [text, k, count, n] w _ hF (by simp) 4 rfl #[.int .i64 text, .int .i64 k, .int .i64 count, .int .i64 n] rfl b hb)
  clear hF
  go_enter Try.func24, Try.ntmps24
  go_wp2_with fail
  ((with_reducible refine (HF.out _ _ (by simp)).mono ?_); rintro e w1 ⟨rfl, hb⟩; have hz_w1 := hb.size; (try simp only [World.size_alloc, World.size_setCell, World.size_drew, size_drewN'] at hz_w1); have k0_w1 := fun o => hb.cell (p := ⟨w.heap.size, o, none⟩) (by first | (simp; done) | (simp; omega) | omega); (try simp [go_sem] at k0_w1); have l0_w1 := fun o => hb.frozen (p := ⟨w.heap.size, o, none⟩) (by first | (simp; done) | (simp; omega) | omega); (try simp [go_sem] at l0_w1); have k1_w1 := fun o => hb.cell (p := ⟨w.heap.size + 1, o, none⟩) (by first | (simp; done) | (simp; omega) | omega); (try simp [go_sem] at k1_w1); have l1_w1 := fun o => hb.frozen (p := ⟨w.heap.size + 1, o, none⟩) (by first | (simp; done) | (simp; omega) | omega); (try simp [go_sem] at l1_w1); have hb_w1 : Below w.heap.size w w1 := Below.trans (by exact (by repeat (first | exact Below.refl _ _ | assumption | (refine Below.setCell ?_ (by first | (simp; done) | (simp; omega) | omega) _) | (refine Below.alloc ?_ (by first | (simp; done) | (simp; omega) | omega) _) | (refine Below.drew ?_) | (refine Below.drewN' ?_ _)))) (hb.mono (by first | (simp; done) | (simp; omega) | omega)); obtain ⟨hc_w1, hf_w1⟩ := bcell hb_w1; clear hb)
  go_wp2_with fail
  exact bodyPost_ret (v := PV (nd, a)) (by simp [results, Try.results24, go_sem, *]) rfl ⟨rfl, (by repeat (first | exact Below.refl _ _ | assumption | (refine Below.setCell ?_ (by first | (simp; done) | (simp; omega) | omega) _) | (refine Below.alloc ?_ (by first | (simp; done) | (simp; omega) | omega) _) | (refine Below.drew ?_) | (refine Below.drewN' ?_ _)))⟩

set_option maxHeartbeats 1000000 in
theorem replaced_case2 (nd a text k count n : Int) (w : World) (hF : fitB nd a [text, k, count, n] = true) (hE : nd = text) (hC : k + count < a) :
    Calls Try.prog 24 #[.agg #[.int .i64 nd, .int .i64 a], .int .i64 text, .int .i64 k, .int .i64 count, .int .i64 n] w (Ret (PV (replacedP (nd, a) text k count n)) w) := by
  have e : replacedP (nd, a) text k count n = (text, a + n - count) := by simp only [replacedP]; rw [if_pos hF, if_pos hE, if_pos hC]
  rw [e]; clear e
  subst hE
  have hd : (nd != nd) = false := by simp
  obtain ⟨b1, b2, b3⟩ := fitB_all hF
  have c_count := b3 count (by simp)
  have c_k := b3 k (by simp)
  have c_n := b3 n (by simp)
  have c_nd := b3 nd (by simp)
  clear b3
  have HF := Lib.hid (fun (w : World) (b : Nat) (hb : b = w.heap.size) => fit_new nd a [nd, k, count, n] w _ hF (by simp) 4 rfl #[.int .i64 nd, .int .i64 k, .int .i64 count, .int .i64 n] rfl b hb)
  clear hF
  go_enter Try.func24, Try.ntmps24
  go_wp2_with fail
  ((with_reducible refine (HF.out _ _ (by simp)).mono ?_); rintro e w1 ⟨rfl, hb⟩; have hz_w1 := hb.size; (try simp only [World.size_alloc, World.size_setCell, World.size_drew, size_drewN'] at hz_w1); have k0_w1 := fun o => hb.cell (p := ⟨w.heap.size, o, none⟩) (by first | (simp; done) | (simp; omega) | omega); (try simp [go_sem] at k0_w1); have l0_w1 := fun o => hb.frozen (p := ⟨w.heap.size, o, none⟩) (by first | (simp; done) | (simp; omega) | omega); (try simp [go_sem] at l0_w1); have k1_w1 := fun o => hb.cell (p := ⟨w.heap.size + 1, o, none⟩) (by first | (simp; done) | (simp; omega) | omega); (try simp [go_sem] at k1_w1); have l1_w1 := fun o => hb.frozen (p := ⟨w.heap.size + 1, o, none⟩) (by first | (simp; done) | (simp; omega) | omega); (try simp [go_sem] at l1_w1); have hb_w1 : Below w.heap.size w w1 := Below.trans (by exact (by repeat (first | exact Below.refl _ _ | assumption | (refine Below.setCell ?_ (by first | (simp; done) | (simp; omega) | omega) _) | (refine Below.alloc ?_ (by first | (simp; done) | (simp; omega) | omega) _) | (refine Below.drew ?_) | (refine Below.drewN' ?_ _)))) (hb.mono (by first | (simp; done) | (simp; omega) | omega)); obtain ⟨hc_w1, hf_w1⟩ := bcell hb_w1; clear hb)
  go_wp2_with fail
  ((with_reducible refine (to_any _ _ _).mono ?_); rintro e w2 ⟨rfl, hb⟩; have hz_w2 := hb.size; (try simp only [World.size_alloc, World.size_setCell, World.size_drew, size_drewN'] at hz_w2); have k0_w2 := fun o => hb.cell (p := ⟨w.heap.size, o, none⟩) (by first | (simp; done) | (simp; omega) | omega); (try simp [go_sem, k0_w1] at k0_w2); have l0_w2 := fun o => hb.frozen (p := ⟨w.heap.size, o, none⟩) (by first | (simp; done) | (simp; omega) | omega); (try simp [go_sem, l0_w1] at l0_w2); have k1_w2 := fun o => hb.cell (p := ⟨w.heap.size + 1, o, none⟩) (by first | (simp; done) | (simp; omega) | omega); (try simp [go_sem, k1_w1] at k1_w2); have l1_w2 := fun o => hb.frozen (p := ⟨w.heap.size + 1, o, none⟩) (by first | (simp; done) | (simp; omega) | omega); (try simp [go_sem, l1_w1] at l1_w2); have hb_w2 : Below w.heap.size w w2 := Below.trans (by exact (by repeat (first | exact Below.refl _ _ | assumption | (refine Below.setCell ?_ (by first | (simp; done) | (simp; omega) | omega) _) | (refine Below.alloc ?_ (by first | (simp; done) | (simp; omega) | omega) _) | (refine Below.drew ?_) | (refine Below.drewN' ?_ _)))) (hb.mono (by first | (simp; done) | (simp; omega) | omega)); obtain ⟨hc_w2, hf_w2⟩ := bcell hb_w2; clear hb)
  go_wp2_with fail
  exact bodyPost_ret (v := PV (nd, a + n - count)) (by simp [results, Try.results24, go_sem, *]) rfl ⟨rfl, (by repeat (first | exact Below.refl _ _ | assumption | (refine Below.setCell ?_ (by first | (simp; done) | (simp; omega) | omega) _) | (refine Below.alloc ?_ (by first | (simp; done) | (simp; omega) | omega) _) | (refine Below.drew ?_) | (refine Below.drewN' ?_ _)))⟩

set_option maxHeartbeats 1000000 in
theorem replaced_case3 (nd a text k count n : Int) (w : World) (hF : fitB nd a [text, k, count, n] = true) (hE : nd = text) (hC : ¬ k + count < a) (hA2 : k < a) :
    Calls Try.prog 24 #[.agg #[.int .i64 nd, .int .i64 a], .int .i64 text, .int .i64 k, .int .i64 count, .int .i64 n] w (Ret (PV (replacedP (nd, a) text k count n)) w) := by
  have e : replacedP (nd, a) text k count n = (text, k) := by simp only [replacedP]; rw [if_pos hF, if_pos hE, if_neg hC, if_pos hA2]
  rw [e]; clear e
  subst hE
  have hd : (nd != nd) = false := by simp
  obtain ⟨b1, b2, b3⟩ := fitB_all hF
  have c_count := b3 count (by simp)
  have c_k := b3 k (by simp)
  have c_n := b3 n (by simp)
  have c_nd := b3 nd (by simp)
  clear b3
  have HF := Lib.hid (fun (w : World) (b : Nat) (hb : b = w.heap.size) => fit_new nd a [nd, k, count, n] w _ hF (by simp) 4 rfl #[.int .i64 nd, .int .i64 k, .int .i64 count, .int .i64 n] rfl b hb)
  clear hF
  have HA2 := Lib.hid (fun (w : World) => above_any nd a nd k w)
  have hr2 : (nd == nd && decide (k < a)) = true := by simp [hA2]
  rw [hr2] at HA2; clear hr2
  go_enter Try.func24, Try.ntmps24
  go_wp2_with fail
  ((with_reducible refine (HF.out _ _ (by simp)).mono ?_); rintro e w1 ⟨rfl, hb⟩; have hz_w1 := hb.size; (try simp only [World.size_alloc, World.size_setCell, World.size_drew, size_drewN'] at hz_w1); have k0_w1 := fun o => hb.cell (p := ⟨w.heap.size, o, none⟩) (by first | (simp; done) | (simp; omega) | omega); (try simp [go_sem] at k0_w1); have l0_w1 := fun o => hb.frozen (p := ⟨w.heap.size, o, none⟩) (by first | (simp; done) | (simp; omega) | omega); (try simp [go_sem] at l0_w1); have k1_w1 := fun o => hb.cell (p := ⟨w.heap.size + 1, o, none⟩) (by first | (simp; done) | (simp; omega) | omega); (try simp [go_sem] at k1_w1); have l1_w1 := fun o => hb.frozen (p := ⟨w.heap.size + 1, o, none⟩) (by first | (simp; done) | (simp; omega) | omega); (try simp [go_sem] at l1_w1); have hb_w1 : Below w.heap.size w w1 := Below.trans (by exact (by repeat (first | exact Below.refl _ _ | assumption | (refine Below.setCell ?_ (by first | (simp; done) | (simp; omega) | omega) _) | (refine Below.alloc ?_ (by first | (simp; done) | (simp; omega) | omega) _) | (refine Below.drew ?_) | (refine Below.drewN' ?_ _)))) (hb.mono (by first | (simp; done) | (simp; omega) | omega)); obtain ⟨hc_w1, hf_w1⟩ := bcell hb_w1; clear hb)
  go_wp2_with fail
  ((with_reducible refine (HA2.out _).mono ?_); rintro e w2 ⟨rfl, hb⟩; have hz_w2 := hb.size; (try simp only [World.size_alloc, World.size_setCell, World.size_drew, size_drewN'] at hz_w2); have k0_w2 := fun o => hb.cell (p := ⟨w.heap.size, o, none⟩) (by first | (simp; done) | (simp; omega) | omega); (try simp [go_sem, k0_w1] at k0_w2); have l0_w2 := fun o => hb.frozen (p := ⟨w.heap.size, o, none⟩) (by first | (simp; done) | (simp; omega) | omega); (try simp [go_sem, l0_w1] at l0_w2); have k1_w2 := fun o => hb.cell (p := ⟨w.heap.size + 1, o, none⟩) (by first | (simp; done) | (simp; omega) | omega); (try simp [go_sem, k1_w1] at k1_w2); have l1_w2 := fun o => hb.frozen (p := ⟨w.heap.size + 1, o, none⟩) (by first | (simp; done) | (simp; omega) | omega); (try simp [go_sem, l1_w1] at l1_w2); have hb_w2 : Below w.heap.size w w2 := Below.trans (by exact (by repeat (first | exact Below.refl _ _ | assumption | (refine Below.setCell ?_ (by first | (simp; done) | (simp; omega) | omega) _) | (refine Below.alloc ?_ (by first | (simp; done) | (simp; omega) | omega) _) | (refine Below.drew ?_) | (refine Below.drewN' ?_ _)))) (hb.mono (by first | (simp; done) | (simp; omega) | omega)); obtain ⟨hc_w2, hf_w2⟩ := bcell hb_w2; clear hb)
  go_wp2_with fail
  ((with_reducible refine (to_any _ _ _).mono ?_); rintro e w3 ⟨rfl, hb⟩; have hz_w3 := hb.size; (try simp only [World.size_alloc, World.size_setCell, World.size_drew, size_drewN'] at hz_w3); have k0_w3 := fun o => hb.cell (p := ⟨w.heap.size, o, none⟩) (by first | (simp; done) | (simp; omega) | omega); (try simp [go_sem, k0_w2] at k0_w3); have l0_w3 := fun o => hb.frozen (p := ⟨w.heap.size, o, none⟩) (by first | (simp; done) | (simp; omega) | omega); (try simp [go_sem, l0_w2] at l0_w3); have k1_w3 := fun o => hb.cell (p := ⟨w.heap.size + 1, o, none⟩) (by first | (simp; done) | (simp; omega) | omega); (try simp [go_sem, k1_w2] at k1_w3); have l1_w3 := fun o => hb.frozen (p := ⟨w.heap.size + 1, o, none⟩) (by first | (simp; done) | (simp; omega) | omega); (try simp [go_sem, l1_w2] at l1_w3); have hb_w3 : Below w.heap.size w w3 := Below.trans (by exact (by repeat (first | exact Below.refl _ _ | assumption | (refine Below.setCell ?_ (by first | (simp; done) | (simp; omega) | omega) _) | (refine Below.alloc ?_ (by first | (simp; done) | (simp; omega) | omega) _) | (refine Below.drew ?_) | (refine Below.drewN' ?_ _)))) (hb.mono (by first | (simp; done) | (simp; omega) | omega)); obtain ⟨hc_w3, hf_w3⟩ := bcell hb_w3; clear hb)
  go_wp2_with fail
  exact bodyPost_ret (v := PV (nd, k)) (by simp [results, Try.results24, go_sem, *]) rfl ⟨rfl, (by repeat (first | exact Below.refl _ _ | assumption | (refine Below.setCell ?_ (by first | (simp; done) | (simp; omega) | omega) _) | (refine Below.alloc ?_ (by first | (simp; done) | (simp; omega) | omega) _) | (refine Below.drew ?_) | (refine Below.drewN' ?_ _)))⟩

set_option maxHeartbeats 1000000 in
theorem replaced_case4 (nd a text k count n : Int) (w : World) (hF : fitB nd a [text, k, count, n] = true) (hE : nd = text) (hC : ¬ k + count < a) (hA2 : ¬ k < a) :
    Calls Try.prog 24 #[.agg #[.int .i64 nd, .int .i64 a], .int .i64 text, .int .i64 k, .int .i64 count, .int .i64 n] w (Ret (PV (replacedP (nd, a) text k count n)) w) := by
  have e : replacedP (nd, a) text k count n = (nd, a) := by simp only [replacedP]; rw [if_pos hF, if_pos hE, if_neg hC, if_neg hA2]
  rw [e]; clear e
  subst hE
  have hd : (nd != nd) = false := by simp
  obtain ⟨b1, b2, b3⟩ := fitB_all hF
  have c_count := b3 count (by simp)
  have c_k := b3 k (by simp)
  have c_n := b3 n (by simp)
  have c_nd := b3 nd (by simp)
  clear b3
  have HF := Lib.hid (fun (w : World) (b : Nat) (hb : b = w.heap.size) => fit_new nd a [nd, k, count, n] w _ hF (by simp) 4 rfl #[.int .i64 nd, .int .i64 k, .int .i64 count, .int .i64 n] rfl b hb)
  clear hF
  have HA2 := Lib.hid (fun (w : World) => above_any nd a nd k w)
  have hr2 : (nd == nd && decide (k < a)) = false := by simp; omega
  rw [hr2] at HA2; clear hr2
  go_enter Try.func24, Try.ntmps24
  go_wp2_with fail
  ((with_reducible refine (HF.out _ _ (by simp)).mono ?_); rintro e w1 ⟨rfl, hb⟩; have hz_w1 := hb.size; (try simp only [World.size_alloc, World.size_setCell, World.size_drew, size_drewN'] at hz_w1); have k0_w1 := fun o => hb.cell (p := ⟨w.heap.size, o, none⟩) (by first | (simp; done) | (simp; omega) | omega); (try simp [go_sem] at k0_w1); have l0_w1 := fun o => hb.frozen (p := ⟨w.heap.size, o, none⟩) (by first | (simp; done) | (simp; omega) | omega); (try simp [go_sem] at l0_w1); have k1_w1 := fun o => hb.cell (p := ⟨w.heap.size + 1, o, none⟩) (by first | (simp; done) | (simp; omega) | omega); (try simp [go_sem] at k1_w1); have l1_w1 := fun o => hb.frozen (p := ⟨w.heap.size + 1, o, none⟩) (by first | (simp; done) | (simp; omega) | omega); (try simp [go_sem] at l1_w1); have hb_w1 : Below w.heap.size w w1 := Below.trans (by exact (by repeat (first | exact Below.refl _ _ | assumption | (refine Below.setCell ?_ (by first | (simp; done) | (simp; omega) | omega) _) | (refine Below.alloc ?_ (by first | (simp; done) | (simp; omega) | omega) _) | (refine Below.drew ?_) | (refine Below.drewN' ?_ _)))) (hb.mono (by first | (simp; done) | (simp; omega) | omega)); obtain ⟨hc_w1, hf_w1⟩ := bcell hb_w1; clear hb)
  go_wp2_with fail
  ((with_reducible refine (HA2.out _).mono ?_); rintro e w2 ⟨rfl, hb⟩; have hz_w2 := hb.size; (try simp only [World.size_alloc, World.size_setCell, World.size_drew, size_drewN'] at hz_w2); have k0_w2 := fun o => hb.cell (p := ⟨w.heap.size, o, none⟩) (by first | (simp; done) | (simp; omega) | omega); (try simp [go_sem, k0_w1] at k0_w2); have l0_w2 := fun o => hb.frozen (p := ⟨w.heap.size, o, none⟩) (by first | (simp; done) | (simp; omega) | omega); (try simp [go_sem, l0_w1] at l0_w2); have k1_w2 := fun o => hb.cell (p := ⟨w.heap.size + 1, o, none⟩) (by first | (simp; done) | (simp; omega) | omega); (try simp [go_sem, k1_w1] at k1_w2); have l1_w2 := fun o => hb.frozen (p := ⟨w.heap.size + 1, o, none⟩) (by first | (simp; done) | (simp; omega) | omega); (try simp [go_sem, l1_w1] at l1_w2); have hb_w2 : Below w.heap.size w w2 := Below.trans (by exact (by repeat (first | exact Below.refl _ _ | assumption | (refine Below.setCell ?_ (by first | (simp; done) | (simp; omega) | omega) _) | (refine Below.alloc ?_ (by first | (simp; done) | (simp; omega) | omega) _) | (refine Below.drew ?_) | (refine Below.drewN' ?_ _)))) (hb.mono (by first | (simp; done) | (simp; omega) | omega)); obtain ⟨hc_w2, hf_w2⟩ := bcell hb_w2; clear hb)
  go_wp2_with fail
  exact bodyPost_ret (v := PV (nd, a)) (by simp [results, Try.results24, go_sem, *]) rfl ⟨rfl, (by repeat (first | exact Below.refl _ _ | assumption | (refine Below.setCell ?_ (by first | (simp; done) | (simp; omega) | omega) _) | (refine Below.alloc ?_ (by first | (simp; done) | (simp; omega) | omega) _) | (refine Below.drew ?_) | (refine Below.drewN' ?_ _)))⟩

theorem replaced_any (nd a text k count n : Int) (w : World) : Calls Try.prog 24 #[.agg #[.int .i64 nd, .int .i64 a], .int .i64 text, .int .i64 k, .int .i64 count, .int .i64 n] w (Ret (PV (replacedP (nd, a) text k count n)) w) := by
  cases hF : fitB nd a [text, k, count, n]
  · exact replaced_case0 nd a text k count n w hF
  · by_cases hE : nd = text
    · by_cases hC : k + count < a
      · exact replaced_case2 nd a text k count n w hF hE hC
      · by_cases hA : k < a
        · exact replaced_case3 nd a text k count n w hF hE hC hA
        · exact replaced_case4 nd a text k count n w hF hE hC hA
    · exact replaced_case1 nd a text k count n w hF hE

end Go.Proofs.Ytnnjlpkjpbbklaa
