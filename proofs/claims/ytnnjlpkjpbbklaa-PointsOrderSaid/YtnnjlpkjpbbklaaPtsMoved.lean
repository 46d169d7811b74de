/-
  PointsMoved: for every input the law of places that are moved answers true: the walk. Conditions: none.
-/
import Derived.Test.YtnnjlpkjpbbklaaPtsLaw
set_option linter.unusedVariables false
set_option linter.unusedSimpArgs false
namespace Go.Proofs.Ytnnjlpkjpbbklaa
open Go.RowKit

theorem fitB_small {nd a : Int} {l : List Int} (h : ∀ x ∈ l ++ [nd, a], -1 ≤ x ∧ x ≤ 1073741824) : fitB nd a l = true := by
  have : ((l ++ [nd, a]).any bad) = false := by
    rw [List.any_eq_false]
    intro x hx
    have := h x hx
    simp [bad]; omega
  simp [fitB, this]

theorem fitB4 {nd a x y z u : Int} (h1 : -1 ≤ nd ∧ nd ≤ 1073741824) (h2 : -1 ≤ a ∧ a ≤ 1073741824) (hx : -1 ≤ x ∧ x ≤ 1073741824) (hy : -1 ≤ y ∧ y ≤ 1073741824) (hz : -1 ≤ z ∧ z ≤ 1073741824) (hu : -1 ≤ u ∧ u ≤ 1073741824) : fitB nd a [x, y, z, u] = true :=
  fitB_small (by intro v hv; simp at hv; rcases hv with rfl | rfl | rfl | rfl | rfl | rfl <;> assumption)
theorem fitB3 {nd a x y z : Int} (h1 : -1 ≤ nd ∧ nd ≤ 1073741824) (h2 : -1 ≤ a ∧ a ≤ 1073741824) (hx : -1 ≤ x ∧ x ≤ 1073741824) (hy : -1 ≤ y ∧ y ≤ 1073741824) (hz : -1 ≤ z ∧ z ≤ 1073741824) : fitB nd a [x, y, z] = true :=
  fitB_small (by intro v hv; simp at hv; rcases hv with rfl | rfl | rfl | rfl | rfl <;> assumption)
theorem fitB2 {nd a x y : Int} (h1 : -1 ≤ nd ∧ nd ≤ 1073741824) (h2 : -1 ≤ a ∧ a ≤ 1073741824) (hx : -1 ≤ x ∧ x ≤ 1073741824) (hy : -1 ≤ y ∧ y ≤ 1073741824) : fitB nd a [x, y] = true :=
  fitB_small (by intro v hv; simp at hv; rcases hv with rfl | rfl | rfl | rfl <;> assumption)
theorem fitB5 {nd a x y z u t : Int} (h1 : -1 ≤ nd ∧ nd ≤ 1073741824) (h2 : -1 ≤ a ∧ a ≤ 1073741824) (hx : -1 ≤ x ∧ x ≤ 1073741824) (hy : -1 ≤ y ∧ y ≤ 1073741824) (hz : -1 ≤ z ∧ z ≤ 1073741824) (hu : -1 ≤ u ∧ u ≤ 1073741824) (ht : -1 ≤ t ∧ t ≤ 1073741824) : fitB nd a [x, y, z, u, t] = true :=
  fitB_small (by intro v hv; simp at hv; rcases hv with rfl | rfl | rfl | rfl | rfl | rfl | rfl <;> assumption)

/-- A kid that is moved within its parent, from one place to another. -/
theorem moved_small {nd k src dst : Int} (h1 : 0 ≤ nd ∧ nd ≤ 20000) (h2 : 0 ≤ k ∧ k ≤ 20000) (h3 : 0 ≤ src ∧ src ≤ 20000) (h4 : 0 ≤ dst ∧ dst ≤ 20000) :
    movedP (nd, k) nd src nd dst = (nd, let x := if src < k then k - 1 else k; if dst < x then x + 1 else x) := by
  have f1 : fitB nd k [nd, src, nd, dst] = true := fitB4 ⟨by omega, by omega⟩ ⟨by omega, by omega⟩ ⟨by omega, by omega⟩ ⟨by omega, by omega⟩ ⟨by omega, by omega⟩ ⟨by omega, by omega⟩
  have f2 : fitB nd k [nd, src] = true := fitB2 ⟨by omega, by omega⟩ ⟨by omega, by omega⟩ ⟨by omega, by omega⟩ ⟨by omega, by omega⟩
  simp only [movedP]
  rw [if_pos f1]
  have e : removedP (nd, k) nd src false = (nd, if src < k then k - 1 else k) := by
    simp only [removedP]
    rw [if_pos f2, if_neg (by simp)]
    by_cases h : src < k <;> simp [h]
  rw [e]
  have hx : -1 ≤ (if src < k then k - 1 else k) ∧ (if src < k then k - 1 else k) ≤ 1073741824 := by split <;> omega
  have f3 : fitB nd (if src < k then k - 1 else k) [nd, dst, 1] = true := fitB3 ⟨by omega, by omega⟩ hx ⟨by omega, by omega⟩ ⟨by omega, by omega⟩ ⟨by omega, by omega⟩
  simp only [insertedP]
  rw [if_pos f3]
  by_cases h : dst < (if src < k then k - 1 else k) <;> simp [h]

theorem moved_still {nd k src : Int} (h1 : 0 ≤ nd ∧ nd ≤ 10000) (h2 : 0 ≤ k ∧ k ≤ 10000) (h3 : 0 ≤ src ∧ src ≤ 10000) :
    movedP (nd, k) nd src nd src = (nd, if k = src + 1 then src else k) := by
  rw [moved_small (by omega) (by omega) (by omega) (by omega)]
  congr 1
  simp only
  (repeat' split) <;> omega

theorem moved_back {nd k src dst : Int} (h1 : 0 ≤ nd ∧ nd ≤ 10000) (h2 : 0 ≤ k ∧ k ≤ 10000) (h3 : 0 ≤ src ∧ src ≤ 10000) (h4 : 0 ≤ dst ∧ dst ≤ 10000) :
    movedP (movedP (nd, k) nd src nd dst) nd dst nd src = (nd, if k = src + 1 then src else k) := by
  rw [moved_small (by omega) (by omega) (by omega) (by omega)]
  rw [moved_small (by omega) (by simp only; split <;> split <;> omega) (by omega) (by omega)]
  congr 1
  simp only
  (repeat' split) <;> omega

set_option maxHeartbeats 1000000 in
theorem pointsMoved_no (nd k src dst : Int) (w : World) (h : smallB [nd, k, src, dst] = false) :
    Calls Try.prog 4 #[.int .i64 nd, .int .i64 k, .int .i64 src, .int .i64 dst] w (Ret (.bool true) w) := by
  have HS := Lib.hid (fun (w : World) (b : Nat) (hb : b = w.heap.size) => small_new [nd, k, src, dst] w _ h (by simp) 4 rfl #[.int .i64 nd, .int .i64 k, .int .i64 src, .int .i64 dst] rfl b hb)
  clear h
  go_enter Try.func4, Try.ntmps4
  go_wp2_with fail
  ((with_reducible refine (HS.out _ _ (by simp)).mono ?_); rintro e w1 ⟨rfl, hb⟩; have hz_w1 := hb.size; (try simp only [World.size_alloc, World.size_setCell, World.size_drew, size_drewN'] at hz_w1); have hb_w1 : Below w.heap.size w w1 := Below.trans (by exact (by repeat (first | exact Below.refl _ _ | assumption | (refine Below.setCell ?_ (by first | (simp; done) | (simp; omega) | omega) _) | (refine Below.alloc ?_ (by first | (simp; done) | (simp; omega) | omega) _) | (refine Below.drew ?_) | (refine Below.drewN' ?_ _)))) (hb.mono (by first | (simp; done) | (simp; omega) | omega)); obtain ⟨hc_w1, hf_w1⟩ := bcell hb_w1; clear hb)
  go_wp2_with fail
  ((with_reducible refine (awake10_any _).mono ?_); rintro e w2 ⟨rfl, hb⟩; have hz_w2 := hb.size; (try simp only [World.size_alloc, World.size_setCell, World.size_drew, size_drewN'] at hz_w2); have hb_w2 : Below w.heap.size w w2 := Below.trans (by exact (by repeat (first | exact Below.refl _ _ | assumption | (refine Below.setCell ?_ (by first | (simp; done) | (simp; omega) | omega) _) | (refine Below.alloc ?_ (by first | (simp; done) | (simp; omega) | omega) _) | (refine Below.drew ?_) | (refine Below.drewN' ?_ _)))) (hb.mono (by first | (simp; done) | (simp; omega) | omega)); obtain ⟨hc_w2, hf_w2⟩ := bcell hb_w2; clear hb)
  go_wp2_with fail
  go_ret
  exact ⟨rfl, (by repeat (first | exact Below.refl _ _ | assumption | (refine Below.setCell ?_ (by first | (simp; done) | (simp; omega) | omega) _) | (refine Below.alloc ?_ (by first | (simp; done) | (simp; omega) | omega) _) | (refine Below.drew ?_) | (refine Below.drewN' ?_ _)))⟩

set_option maxHeartbeats 4000000 in
theorem pointsMoved_yes (nd k src dst r : Int) (w : World) (h : smallB [nd, k, src, dst] = true) (hr : r = if k = src + 1 then src else k) :
    Calls Try.prog 4 #[.int .i64 nd, .int .i64 k, .int .i64 src, .int .i64 dst] w (Ret (.bool true) w) := by
  have hs := smallB_all h
  have n1 := hs nd (by simp)
  have n2 := hs k (by simp)
  have n3 := hs src (by simp)
  have n4 := hs dst (by simp)
  clear hs
  have HS := Lib.hid (fun (w : World) (b : Nat) (hb : b = w.heap.size) => small_new [nd, k, src, dst] w _ h (by simp) 4 rfl #[.int .i64 nd, .int .i64 k, .int .i64 src, .int .i64 dst] rfl b hb)
  clear h
  have m1 := moved_any nd k nd src nd dst
  have e1 := moved_back (nd := nd) (k := k) (src := src) (dst := dst) n1 n2 n3 n4
  have m3 := moved_any nd k nd src nd src
  rw [moved_still n1 n2 n3, ← hr] at m3
  rw [← hr] at e1
  obtain ⟨q, hq⟩ : ∃ q, q = movedP (nd, k) nd src nd dst := ⟨_, rfl⟩
  rw [← hq] at m1 e1
  obtain ⟨q1, q2⟩ := q
  have m2 := moved_any q1 q2 nd dst nd src
  rw [e1] at m2
  simp only [PV] at m1 m2 m3
  have M1 := Lib.hid m1
  have M2 := Lib.hid m2
  have M3 := Lib.hid m3
  clear m1 m2 m3 e1 hq
  have hn : (nd == nd) = true := by simp
  have hrr : (r == r) = true := by simp
  by_cases hks : k = src + 1
  · have hk : (k == src + 1) = true := by simp [hks]
    rw [if_pos hks] at hr
    subst hr
    clear hks
    go_enter Try.func4, Try.ntmps4
    go_wp2_with fail
    ((with_reducible refine (HS.out _ _ (by simp)).mono ?_); rintro e w1 ⟨rfl, hb⟩; have hz_w1 := hb.size; (try simp only [World.size_alloc, World.size_setCell, World.size_drew, size_drewN'] at hz_w1); have hb_w1 : Below w.heap.size w w1 := Below.trans (by exact (by repeat (first | exact Below.refl _ _ | assumption | (refine Below.setCell ?_ (by first | (simp; done) | (simp; omega) | omega) _) | (refine Below.alloc ?_ (by first | (simp; done) | (simp; omega) | omega) _) | (refine Below.drew ?_) | (refine Below.drewN' ?_ _)))) (hb.mono (by first | (simp; done) | (simp; omega) | omega)); obtain ⟨hc_w1, hf_w1⟩ := bcell hb_w1; clear hb)
    go_wp2_with fail
    ((with_reducible refine (at_any _ _ _).mono ?_); rintro e w2 ⟨rfl, hb⟩; have hz_w2 := hb.size; (try simp only [World.size_alloc, World.size_setCell, World.size_drew, size_drewN'] at hz_w2); have hb_w2 : Below w.heap.size w w2 := Below.trans (by exact (by repeat (first | exact Below.refl _ _ | assumption | (refine Below.setCell ?_ (by first | (simp; done) | (simp; omega) | omega) _) | (refine Below.alloc ?_ (by first | (simp; done) | (simp; omega) | omega) _) | (refine Below.drew ?_) | (refine Below.drewN' ?_ _)))) (hb.mono (by first | (simp; done) | (simp; omega) | omega)); obtain ⟨hc_w2, hf_w2⟩ := bcell hb_w2; clear hb)
    go_wp2_with fail
    ((with_reducible refine (at_any _ _ _).mono ?_); rintro e w3 ⟨rfl, hb⟩; have hz_w3 := hb.size; (try simp only [World.size_alloc, World.size_setCell, World.size_drew, size_drewN'] at hz_w3); have hb_w3 : Below w.heap.size w w3 := Below.trans (by exact (by repeat (first | exact Below.refl _ _ | assumption | (refine Below.setCell ?_ (by first | (simp; done) | (simp; omega) | omega) _) | (refine Below.alloc ?_ (by first | (simp; done) | (simp; omega) | omega) _) | (refine Below.drew ?_) | (refine Below.drewN' ?_ _)))) (hb.mono (by first | (simp; done) | (simp; omega) | omega)); obtain ⟨hc_w3, hf_w3⟩ := bcell hb_w3; clear hb)
    go_wp2_with fail
    ((with_reducible refine (at_any _ _ _).mono ?_); rintro e w4 ⟨rfl, hb⟩; have hz_w4 := hb.size; (try simp only [World.size_alloc, World.size_setCell, World.size_drew, size_drewN'] at hz_w4); have k0_w4 : At w4 (w3.heap.size) 25 #[I nd, I k] := At.keep (by (repeat' (first | (with_reducible assumption) | (with_reducible refine unhid ?_; with_reducible assumption) | (with_reducible refine At.fresh _ _ _ (by first | (simp; done) | (simp; omega) | omega)) | (with_reducible apply At.set') | (with_reducible apply At.far) | (with_reducible apply At.alloc) | (with_reducible apply At.drew) | (with_reducible apply At.drewN) | exact (rfl : Array.setIfInBounds _ _ _ = _) | (refine Ne.symm ?_; simp; done) | (show _ ≠ _; simp; done) | (show _ ≠ _; simp; omega) | (show _ ≠ _; omega))); (first | done | fail)) hb; have k0_w4c := At.cell k0_w4; have k0_w4f := At.frozen k0_w4; have k0_w4h := Lib.hid k0_w4; clear k0_w4; have k1_w4 : At w4 (w3.heap.size + 1) 25 #[I nd, I k] := At.keep (by (repeat' (first | (with_reducible assumption) | (with_reducible refine unhid ?_; with_reducible assumption) | (with_reducible refine At.fresh _ _ _ (by first | (simp; done) | (simp; omega) | omega)) | (with_reducible apply At.set') | (with_reducible apply At.far) | (with_reducible apply At.alloc) | (with_reducible apply At.drew) | (with_reducible apply At.drewN) | exact (rfl : Array.setIfInBounds _ _ _ = _) | (refine Ne.symm ?_; simp; done) | (show _ ≠ _; simp; done) | (show _ ≠ _; simp; omega) | (show _ ≠ _; omega))); (first | done | fail)) hb; have k1_w4c := At.cell k1_w4; have k1_w4f := At.frozen k1_w4; have k1_w4h := Lib.hid k1_w4; clear k1_w4; have hb_w4 : Below w.heap.size w w4 := Below.trans (by exact (by repeat (first | exact Below.refl _ _ | assumption | (refine Below.setCell ?_ (by first | (simp; done) | (simp; omega) | omega) _) | (refine Below.alloc ?_ (by first | (simp; done) | (simp; omega) | omega) _) | (refine Below.drew ?_) | (refine Below.drewN' ?_ _)))) (hb.mono (by first | (simp; done) | (simp; omega) | omega)); obtain ⟨hc_w4, hf_w4⟩ := bcell hb_w4; clear hb)
    go_wp2_with fail
    ((with_reducible refine (M1.out _).mono ?_); rintro e w5 ⟨rfl, hb⟩; have hz_w5 := hb.size; (try simp only [World.size_alloc, World.size_setCell, World.size_drew, size_drewN'] at hz_w5); have k0_w5 : At w5 (w3.heap.size) 25 #[I nd, I k] := At.keep (by (repeat' (first | (with_reducible assumption) | (with_reducible refine unhid ?_; with_reducible assumption) | (with_reducible refine At.fresh _ _ _ (by first | (simp; done) | (simp; omega) | omega)) | (with_reducible apply At.set') | (with_reducible apply At.far) | (with_reducible apply At.alloc) | (with_reducible apply At.drew) | (with_reducible apply At.drewN) | exact (rfl : Array.setIfInBounds _ _ _ = _) | (refine Ne.symm ?_; simp; done) | (show _ ≠ _; simp; done) | (show _ ≠ _; simp; omega) | (show _ ≠ _; omega))); (first | done | fail)) hb; have k0_w5c := At.cell k0_w5; have k0_w5f := At.frozen k0_w5; have k0_w5h := Lib.hid k0_w5; clear k0_w5; have k1_w5 : At w5 (w3.heap.size + 1) 25 #[I nd, I r] := At.keep (by (repeat' (first | (with_reducible assumption) | (with_reducible refine unhid ?_; with_reducible assumption) | (with_reducible refine At.fresh _ _ _ (by first | (simp; done) | (simp; omega) | omega)) | (with_reducible apply At.set') | (with_reducible apply At.far) | (with_reducible apply At.alloc) | (with_reducible apply At.drew) | (with_reducible apply At.drewN) | exact (rfl : Array.setIfInBounds _ _ _ = _) | (refine Ne.symm ?_; simp; done) | (show _ ≠ _; simp; done) | (show _ ≠ _; simp; omega) | (show _ ≠ _; omega))); (first | done | fail)) hb; have k1_w5c := At.cell k1_w5; have k1_w5f := At.frozen k1_w5; have k1_w5h := Lib.hid k1_w5; clear k1_w5; have hb_w5 : Below w.heap.size w w5 := Below.trans (by exact (by repeat (first | exact Below.refl _ _ | assumption | (refine Below.setCell ?_ (by first | (simp; done) | (simp; omega) | omega) _) | (refine Below.alloc ?_ (by first | (simp; done) | (simp; omega) | omega) _) | (refine Below.drew ?_) | (refine Below.drewN' ?_ _)))) (hb.mono (by first | (simp; done) | (simp; omega) | omega)); obtain ⟨hc_w5, hf_w5⟩ := bcell hb_w5; clear hb)
    go_wp2_with fail
    ((with_reducible refine (M2.out _).mono ?_); rintro e w6 ⟨rfl, hb⟩; have hz_w6 := hb.size; (try simp only [World.size_alloc, World.size_setCell, World.size_drew, size_drewN'] at hz_w6); have k0_w6 : At w6 (w3.heap.size) 25 #[I nd, I k] := At.keep (by (repeat' (first | (with_reducible assumption) | (with_reducible refine unhid ?_; with_reducible assumption) | (with_reducible refine At.fresh _ _ _ (by first | (simp; done) | (simp; omega) | omega)) | (with_reducible apply At.set') | (with_reducible apply At.far) | (with_reducible apply At.alloc) | (with_reducible apply At.drew) | (with_reducible apply At.drewN) | exact (rfl : Array.setIfInBounds _ _ _ = _) | (refine Ne.symm ?_; simp; done) | (show _ ≠ _; simp; done) | (show _ ≠ _; simp; omega) | (show _ ≠ _; omega))); (first | done | fail)) hb; have k0_w6c := At.cell k0_w6; have k0_w6f := At.frozen k0_w6; have k0_w6h := Lib.hid k0_w6; clear k0_w6; have k1_w6 : At w6 (w3.heap.size + 1) 25 #[I nd, I r] := At.keep (by (repeat' (first | (with_reducible assumption) | (with_reducible refine unhid ?_; with_reducible assumption) | (with_reducible refine At.fresh _ _ _ (by first | (simp; done) | (simp; omega) | omega)) | (with_reducible apply At.set') | (with_reducible apply At.far) | (with_reducible apply At.alloc) | (with_reducible apply At.drew) | (with_reducible apply At.drewN) | exact (rfl : Array.setIfInBounds _ _ _ = _) | (refine Ne.symm ?_; simp; done) | (show _ ≠ _; simp; done) | (show _ ≠ _; simp; omega) | (show _ ≠ _; omega))); (first | done | fail)) hb; have k1_w6c := At.cell k1_w6; have k1_w6f := At.frozen k1_w6; have k1_w6h := Lib.hid k1_w6; clear k1_w6; have hb_w6 : Below w.heap.size w w6 := Below.trans (by exact (by repeat (first | exact Below.refl _ _ | assumption | (refine Below.setCell ?_ (by first | (simp; done) | (simp; omega) | omega) _) | (refine Below.alloc ?_ (by first | (simp; done) | (simp; omega) | omega) _) | (refine Below.drew ?_) | (refine Below.drewN' ?_ _)))) (hb.mono (by first | (simp; done) | (simp; omega) | omega)); obtain ⟨hc_w6, hf_w6⟩ := bcell hb_w6; clear hb)
    go_wp2_with fail
    (refine wp_region_quiet_below (by kernel_rfl) (by kernel_rfl) ?_; (repeat (go_big_quiet_step (first | exact quietRet (M3.out _) | exact quietRet (awake10_any _)))); refine wpQuiet_nil ?_; intro w7 hw'; have hb := below_class hw'; clear hw'; have hz_w7 := hb.size; (try simp only [World.size_alloc, World.size_setCell, World.size_drew, size_drewN'] at hz_w7); have hb_w7 : Below w.heap.size w w7 := Below.trans (by exact (by repeat (first | exact Below.refl _ _ | assumption | (refine Below.setCell ?_ (by first | (simp; done) | (simp; omega) | omega) _) | (refine Below.alloc ?_ (by first | (simp; done) | (simp; omega) | omega) _) | (refine Below.drew ?_) | (refine Below.drewN' ?_ _)))) (hb.mono (by first | (simp; done) | (simp; omega) | omega)); obtain ⟨hc_w7, hf_w7⟩ := bcell hb_w7; clear hb)
    go_wp2_with fail
    go_ret
    exact ⟨rfl, (by repeat (first | exact Below.refl _ _ | assumption | (refine Below.setCell ?_ (by first | (simp; done) | (simp; omega) | omega) _) | (refine Below.alloc ?_ (by first | (simp; done) | (simp; omega) | omega) _) | (refine Below.drew ?_) | (refine Below.drewN' ?_ _)))⟩
  · have hk : (k == src + 1) = false := by simp [hks]
    rw [if_neg hks] at hr
    subst hr
    clear hks
    go_enter Try.func4, Try.ntmps4
    go_wp2_with fail
    ((with_reducible refine (HS.out _ _ (by simp)).mono ?_); rintro e w1 ⟨rfl, hb⟩; have hz_w1 := hb.size; (try simp only [World.size_alloc, World.size_setCell, World.size_drew, size_drewN'] at hz_w1); have hb_w1 : Below w.heap.size w w1 := Below.trans (by exact (by repeat (first | exact Below.refl _ _ | assumption | (refine Below.setCell ?_ (by first | (simp; done) | (simp; omega) | omega) _) | (refine Below.alloc ?_ (by first | (simp; done) | (simp; omega) | omega) _) | (refine Below.drew ?_) | (refine Below.drewN' ?_ _)))) (hb.mono (by first | (simp; done) | (simp; omega) | omega)); obtain ⟨hc_w1, hf_w1⟩ := bcell hb_w1; clear hb)
    go_wp2_with fail
    ((with_reducible refine (at_any _ _ _).mono ?_); rintro e w2 ⟨rfl, hb⟩; have hz_w2 := hb.size; (try simp only [World.size_alloc, World.size_setCell, World.size_drew, size_drewN'] at hz_w2); have hb_w2 : Below w.heap.size w w2 := Below.trans (by exact (by repeat (first | exact Below.refl _ _ | assumption | (refine Below.setCell ?_ (by first | (simp; done) | (simp; omega) | omega) _) | (refine Below.alloc ?_ (by first | (simp; done) | (simp; omega) | omega) _) | (refine Below.drew ?_) | (refine Below.drewN' ?_ _)))) (hb.mono (by first | (simp; done) | (simp; omega) | omega)); obtain ⟨hc_w2, hf_w2⟩ := bcell hb_w2; clear hb)
    go_wp2_with fail
    ((with_reducible refine (at_any _ _ _).mono ?_); rintro e w3 ⟨rfl, hb⟩; have hz_w3 := hb.size; (try simp only [World.size_alloc, World.size_setCell, World.size_drew, size_drewN'] at hz_w3); have hb_w3 : Below w.heap.size w w3 := Below.trans (by exact (by repeat (first | exact Below.refl _ _ | assumption | (refine Below.setCell ?_ (by first | (simp; done) | (simp; omega) | omega) _) | (refine Below.alloc ?_ (by first | (simp; done) | (simp; omega) | omega) _) | (refine Below.drew ?_) | (refine Below.drewN' ?_ _)))) (hb.mono (by first | (simp; done) | (simp; omega) | omega)); obtain ⟨hc_w3, hf_w3⟩ := bcell hb_w3; clear hb)
    go_wp2_with fail
    ((with_reducible refine (M1.out _).mono ?_); rintro e w5 ⟨rfl, hb⟩; have hz_w5 := hb.size; (try simp only [World.size_alloc, World.size_setCell, World.size_drew, size_drewN'] at hz_w5); have k0_w5 : At w5 (w3.heap.size) 25 #[I nd, I r] := At.keep (by (repeat' (first | (with_reducible assumption) | (with_reducible refine unhid ?_; with_reducible assumption) | (with_reducible refine At.fresh _ _ _ (by first | (simp; done) | (simp; omega) | omega)) | (with_reducible apply At.set') | (with_reducible apply At.far) | (with_reducible apply At.alloc) | (with_reducible apply At.drew) | (with_reducible apply At.drewN) | exact (rfl : Array.setIfInBounds _ _ _ = _) | (refine Ne.symm ?_; simp; done) | (show _ ≠ _; simp; done) | (show _ ≠ _; simp; omega) | (show _ ≠ _; omega))); (first | done | fail)) hb; have k0_w5c := At.cell k0_w5; have k0_w5f := At.frozen k0_w5; have k0_w5h := Lib.hid k0_w5; clear k0_w5; have k1_w5 : At w5 (w3.heap.size + 1) 25 #[I nd, I r] := At.keep (by (repeat' (first | (with_reducible assumption) | (with_reducible refine unhid ?_; with_reducible assumption) | (with_reducible refine At.fresh _ _ _ (by first | (simp; done) | (simp; omega) | omega)) | (with_reducible apply At.set') | (with_reducible apply At.far) | (with_reducible apply At.alloc) | (with_reducible apply At.drew) | (with_reducible apply At.drewN) | exact (rfl : Array.setIfInBounds _ _ _ = _) | (refine Ne.symm ?_; simp; done) | (show _ ≠ _; simp; done) | (show _ ≠ _; simp; omega) | (show _ ≠ _; omega))); (first | done | fail)) hb; have k1_w5c := At.cell k1_w5; have k1_w5f := At.frozen k1_w5; have k1_w5h := Lib.hid k1_w5; clear k1_w5; have hb_w5 : Below w.heap.size w w5 := Below.trans (by exact (by repeat (first | exact Below.refl _ _ | assumption | (refine Below.setCell ?_ (by first | (simp; done) | (simp; omega) | omega) _) | (refine Below.alloc ?_ (by first | (simp; done) | (simp; omega) | omega) _) | (refine Below.drew ?_) | (refine Below.drewN' ?_ _)))) (hb.mono (by first | (simp; done) | (simp; omega) | omega)); obtain ⟨hc_w5, hf_w5⟩ := bcell hb_w5; clear hb)
    go_wp2_with fail
    ((with_reducible refine (M2.out _).mono ?_); rintro e w6 ⟨rfl, hb⟩; have hz_w6 := hb.size; (try simp only [World.size_alloc, World.size_setCell, World.size_drew, size_drewN'] at hz_w6); have k0_w6 : At w6 (w3.heap.size) 25 #[I nd, I r] := At.keep (by (repeat' (first | (with_reducible assumption) | (with_reducible refine unhid ?_; with_reducible assumption) | (with_reducible refine At.fresh _ _ _ (by first | (simp; done) | (simp; omega) | omega)) | (with_reducible apply At.set') | (with_reducible apply At.far) | (with_reducible apply At.alloc) | (with_reducible apply At.drew) | (with_reducible apply At.drewN) | exact (rfl : Array.setIfInBounds _ _ _ = _) | (refine Ne.symm ?_; simp; done) | (show _ ≠ _; simp; done) | (show _ ≠ _; simp; omega) | (show _ ≠ _; omega))); (first | done | fail)) hb; have k0_w6c := At.cell k0_w6; have k0_w6f := At.frozen k0_w6; have k0_w6h := Lib.hid k0_w6; clear k0_w6; have k1_w6 : At w6 (w3.heap.size + 1) 25 #[I nd, I r] := At.keep (by (repeat' (first | (with_reducible assumption) | (with_reducible refine unhid ?_; with_reducible assumption) | (with_reducible refine At.fresh _ _ _ (by first | (simp; done) | (simp; omega) | omega)) | (with_reducible apply At.set') | (with_reducible apply At.far) | (with_reducible apply At.alloc) | (with_reducible apply At.drew) | (with_reducible apply At.drewN) | exact (rfl : Array.setIfInBounds _ _ _ = _) | (refine Ne.symm ?_; simp; done) | (show _ ≠ _; simp; done) | (show _ ≠ _; simp; omega) | (show _ ≠ _; omega))); (first | done | fail)) hb; have k1_w6c := At.cell k1_w6; have k1_w6f := At.frozen k1_w6; have k1_w6h := Lib.hid k1_w6; clear k1_w6; have hb_w6 : Below w.heap.size w w6 := Below.trans (by exact (by repeat (first | exact Below.refl _ _ | assumption | (refine Below.setCell ?_ (by first | (simp; done) | (simp; omega) | omega) _) | (refine Below.alloc ?_ (by first | (simp; done) | (simp; omega) | omega) _) | (refine Below.drew ?_) | (refine Below.drewN' ?_ _)))) (hb.mono (by first | (simp; done) | (simp; omega) | omega)); obtain ⟨hc_w6, hf_w6⟩ := bcell hb_w6; clear hb)
    go_wp2_with fail
    (refine wp_region_quiet_below (by kernel_rfl) (by kernel_rfl) ?_; (repeat (go_big_quiet_step (first | exact quietRet (M3.out _) | exact quietRet (awake10_any _)))); refine wpQuiet_nil ?_; intro w7 hw'; have hb := below_class hw'; clear hw'; have hz_w7 := hb.size; (try simp only [World.size_alloc, World.size_setCell, World.size_drew, size_drewN'] at hz_w7); have hb_w7 : Below w.heap.size w w7 := Below.trans (by exact (by repeat (first | exact Below.refl _ _ | assumption | (refine Below.setCell ?_ (by first | (simp; done) | (simp; omega) | omega) _) | (refine Below.alloc ?_ (by first | (simp; done) | (simp; omega) | omega) _) | (refine Below.drew ?_) | (refine Below.drewN' ?_ _)))) (hb.mono (by first | (simp; done) | (simp; omega) | omega)); obtain ⟨hc_w7, hf_w7⟩ := bcell hb_w7; clear hb)
    go_wp2_with fail
    go_ret
    exact ⟨rfl, (by repeat (first | exact Below.refl _ _ | assumption | (refine Below.setCell ?_ (by first | (simp; done) | (simp; omega) | omega) _) | (refine Below.alloc ?_ (by first | (simp; done) | (simp; omega) | omega) _) | (refine Below.drew ?_) | (refine Below.drewN' ?_ _)))⟩

theorem pointsMoved_any (nd k src dst : Int) (w : World) :
    Calls Try.prog 4 #[.int .i64 nd, .int .i64 k, .int .i64 src, .int .i64 dst] w (Ret (.bool true) w) := by
  cases h : smallB [nd, k, src, dst]
  · exact pointsMoved_no nd k src dst w h
  · exact pointsMoved_yes nd k src dst _ w h rfl
end Go.Proofs.Ytnnjlpkjpbbklaa
