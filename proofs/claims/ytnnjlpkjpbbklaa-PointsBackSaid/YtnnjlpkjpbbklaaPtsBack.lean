/-
  PointsBack: for every input the law of places that come back answers true: the walk. Conditions: none.
-/
import Derived.Test.YtnnjlpkjpbbklaaPtsMoved
namespace Go.Proofs.Ytnnjlpkjpbbklaa
open Go.RowKit

section
variable {nd a id k n fresh index : Int} (h1 : 0 ≤ nd ∧ nd ≤ 10000) (h2 : 0 ≤ a ∧ a ≤ 10000) (h3 : 0 ≤ id ∧ id ≤ 10000) (h4 : 0 ≤ k ∧ k ≤ 10000) (h5 : 0 ≤ n ∧ n ≤ 10000) (h6 : 0 ≤ fresh ∧ fresh ≤ 10000) (h7 : 0 ≤ index ∧ index ≤ 10000)
  (g1 : ¬ fresh = id) (g2 : ¬ fresh = nd)
include h1 h2 h3 h4
theorem back_insert : removedP (insertedP (nd, a) id k 1) id k false = (nd, a) := by
  have f1 : fitB nd a [id, k, 1] = true := fitB3 ⟨by omega, by omega⟩ ⟨by omega, by omega⟩ ⟨by omega, by omega⟩ ⟨by omega, by omega⟩ ⟨by omega, by omega⟩
  have f2 : fitB nd a [id, k] = true := fitB2 ⟨by omega, by omega⟩ ⟨by omega, by omega⟩ ⟨by omega, by omega⟩ ⟨by omega, by omega⟩
  have f3 : fitB nd (a + 1) [id, k] = true := fitB2 ⟨by omega, by omega⟩ ⟨by omega, by omega⟩ ⟨by omega, by omega⟩ ⟨by omega, by omega⟩
  simp only [insertedP]
  rw [if_pos f1]
  by_cases h : nd = id ∧ k < a
  · rw [if_pos h]
    simp only [removedP]
    rw [if_pos f3, if_neg (by simp), if_pos ⟨h.1, by omega⟩]
    simp
  · rw [if_neg h]
    simp only [removedP]
    rw [if_pos f2, if_neg (by simp), if_neg h]

include h5 h6
theorem wrap_is : wrappedP (nd, a) id k n fresh = if nd = id ∧ k < a then (if a < k + n then (fresh, a - k) else (id, a - n + 1)) else (nd, a) := by
  have f1 : fitB nd a [id, k, n, fresh] = true := fitB4 ⟨by omega, by omega⟩ ⟨by omega, by omega⟩ ⟨by omega, by omega⟩ ⟨by omega, by omega⟩ ⟨by omega, by omega⟩ ⟨by omega, by omega⟩
  simp only [wrappedP]
  rw [if_pos f1]

include g1 g2
theorem back_wrap (hn : 0 < n) : unwrappedP (wrappedP (nd, a) id k n fresh) fresh n id k = (nd, a) := by
  rw [wrap_is h1 h2 h3 h4 h5 h6]
  by_cases h : nd = id ∧ k < a
  · rw [if_pos h]
    by_cases hc : a < k + n
    · rw [if_pos hc]
      have f1 : fitB fresh (a - k) [fresh, n, id, k] = true := fitB4 ⟨by omega, by omega⟩ ⟨by omega, by omega⟩ ⟨by omega, by omega⟩ ⟨by omega, by omega⟩ ⟨by omega, by omega⟩ ⟨by omega, by omega⟩
      simp only [unwrappedP]
      rw [if_pos f1, if_pos trivial, h.1]
      congr 1; omega
    · rw [if_neg hc]
      have f1 : fitB id (a - n + 1) [fresh, n, id, k] = true := fitB4 ⟨by omega, by omega⟩ ⟨by omega, by omega⟩ ⟨by omega, by omega⟩ ⟨by omega, by omega⟩ ⟨by omega, by omega⟩ ⟨by omega, by omega⟩
      simp only [unwrappedP]
      rw [if_pos f1, if_neg (fun e => g1 e.symm), if_pos (by constructor <;> first | trivial | omega), h.1]
      congr 1; omega
  · rw [if_neg h]
    have f1 : fitB nd a [fresh, n, id, k] = true := fitB4 ⟨by omega, by omega⟩ ⟨by omega, by omega⟩ ⟨by omega, by omega⟩ ⟨by omega, by omega⟩ ⟨by omega, by omega⟩ ⟨by omega, by omega⟩
    simp only [unwrappedP]
    rw [if_pos f1, if_neg (fun e => g2 e.symm), if_neg h]

omit h5 g1 g2
include h7
theorem split_is : splitTextP (nd, a) id k fresh 20000 index = if nd = id ∧ k < a then (fresh, a - k) else (nd, a) := by
  have f1 : fitB nd a [id, k, fresh, 20000, index] = true := fitB5 ⟨by omega, by omega⟩ ⟨by omega, by omega⟩ ⟨by omega, by omega⟩ ⟨by omega, by omega⟩ ⟨by omega, by omega⟩ ⟨by omega, by omega⟩ ⟨by omega, by omega⟩
  simp only [splitTextP]
  rw [if_pos f1]
  simp only [cutP]
  by_cases h : nd = id ∧ k < a
  · rw [if_pos h, if_pos h]
  · rw [if_neg h, if_neg h, if_neg (by omega)]

include g2
theorem back_split : joinTextP (splitTextP (nd, a) id k fresh 20000 index) id fresh k 20000 (index + 1) = (nd, a) := by
  rw [split_is h1 h2 h3 h4 h6 h7]
  by_cases h : nd = id ∧ k < a
  · rw [if_pos h]
    have f1 : fitB fresh (a - k) [id, fresh, k, 20000, index + 1] = true := fitB5 ⟨by omega, by omega⟩ ⟨by omega, by omega⟩ ⟨by omega, by omega⟩ ⟨by omega, by omega⟩ ⟨by omega, by omega⟩ ⟨by omega, by omega⟩ ⟨by omega, by omega⟩
    simp only [joinTextP]
    rw [if_pos f1, if_pos trivial, h.1]
    congr 1; omega
  · rw [if_neg h]
    have f1 : fitB nd a [id, fresh, k, 20000, index + 1] = true := fitB5 ⟨by omega, by omega⟩ ⟨by omega, by omega⟩ ⟨by omega, by omega⟩ ⟨by omega, by omega⟩ ⟨by omega, by omega⟩ ⟨by omega, by omega⟩ ⟨by omega, by omega⟩
    simp only [joinTextP]
    rw [if_pos f1, if_neg (fun e => g2 e.symm), if_neg (by intro e; injection e with e1 e2; omega), if_neg (by omega)]
end

section
variable {a id k fresh index : Int} (h2 : 0 ≤ a ∧ a ≤ 10000) (h3 : 0 ≤ id ∧ id ≤ 10000) (h4 : 0 ≤ k ∧ k ≤ 10000) (h6 : 0 ≤ fresh ∧ fresh ≤ 10000) (h7 : 0 ≤ index ∧ index ≤ 10000)
include h2 h3 h4 h6 h7
theorem up_is : splitTextP (20000, a) id k fresh 20000 index = (20000, if index < a then a + 1 else a) := by
  have f1 : fitB 20000 a [id, k, fresh, 20000, index] = true := fitB5 ⟨by omega, by omega⟩ ⟨by omega, by omega⟩ ⟨by omega, by omega⟩ ⟨by omega, by omega⟩ ⟨by omega, by omega⟩ ⟨by omega, by omega⟩ ⟨by omega, by omega⟩
  simp only [splitTextP]
  rw [if_pos f1]
  simp only [cutP]
  rw [if_neg (by omega)]
  by_cases h : index < a
  · rw [if_pos (by simp [h]), if_pos h]
  · rw [if_neg (by omega), if_neg h]

theorem back_up : joinTextP (20000, if index < a then a + 1 else a) id fresh k 20000 (index + 1) = (20000, a) := by
  have hb : -1 ≤ (if index < a then a + 1 else a) ∧ (if index < a then a + 1 else a) ≤ 1073741824 := by split <;> omega
  have f1 : fitB 20000 (if index < a then a + 1 else a) [id, fresh, k, 20000, index + 1] = true := fitB5 ⟨by omega, by omega⟩ hb ⟨by omega, by omega⟩ ⟨by omega, by omega⟩ ⟨by omega, by omega⟩ ⟨by omega, by omega⟩ ⟨by omega, by omega⟩
  simp only [joinTextP]
  rw [if_pos f1, if_neg (by omega)]
  by_cases h : index < a
  · rw [if_pos h, if_neg (by intro e; injection e with e1 e2; omega), if_pos (by constructor <;> first | trivial | omega)]
    congr 1; omega
  · rw [if_neg h, if_neg (by intro e; injection e with e1 e2; omega), if_neg (by omega)]
end

section
variable (nd a id k n fresh index : Int) (w : World)

def backArgs : Array Value := #[.agg #[.int .i64 nd, .int .i64 a], .int .i64 id, .int .i64 k, .int .i64 n, .int .i64 fresh, .int .i64 index]

theorem small7 (nd a id k n fresh index : Int) (w : World) (r : Bool) (h : smallB [nd, a, id, k, n, fresh, index] = r) (b : Nat) (hb : b = w.heap.size) :
    Calls Try.prog 19 #[.slice (some ⟨b, 0, none⟩) 7 7] (w.alloc (.cells #[.int .i64 nd, .int .i64 a, .int .i64 id, .int .i64 k, .int .i64 n, .int .i64 fresh, .int .i64 index] 3)) (Ret (.bool r) (w.alloc (.cells #[.int .i64 nd, .int .i64 a, .int .i64 id, .int .i64 k, .int .i64 n, .int .i64 fresh, .int .i64 index] 3))) :=
  small_new [nd, a, id, k, n, fresh, index] w r h (by simp) 7 rfl _ rfl b hb

set_option maxHeartbeats 1000000 in
theorem pointsBack_no1 (h : smallB [nd, a, id, k, n, fresh, index] = false) :
    Calls Try.prog 5 #[.agg #[.int .i64 nd, .int .i64 a], .int .i64 id, .int .i64 k, .int .i64 n, .int .i64 fresh, .int .i64 index] w (Ret (.bool true) w) := by
  have HS := Lib.hid (fun (w : World) => small7 nd a id k n fresh index w false h)
  clear h
  go_enter Try.func5, Try.ntmps5
  go_wp2_with fail
  (refine (HS.out _ _ (by simp)).mono ?_; rintro e w1 ⟨rfl, hb⟩; have hz_w1 := hb.size; (try simp only [World.size_alloc, World.size_setCell, World.size_drew, size_drewN'] at hz_w1); have hb_w1 : Below w.heap.size w w1 := Below.trans (by exact (by repeat (first | exact Below.refl _ _ | assumption | (refine Below.setCell ?_ (by first | (simp; done) | (simp; omega) | omega) _) | (refine Below.alloc ?_ (by first | (simp; done) | (simp; omega) | omega) _) | (refine Below.drew ?_) | (refine Below.drewN' ?_ _)))) (hb.mono (by first | (simp; done) | (simp; omega) | omega)); obtain ⟨hc_w1, hf_w1⟩ := bcell hb_w1; clear hb)
  go_wp2_with fail
  (refine (awake10_any _).mono ?_; rintro e w2 ⟨rfl, hb⟩; have hz_w2 := hb.size; (try simp only [World.size_alloc, World.size_setCell, World.size_drew, size_drewN'] at hz_w2); have hb_w2 : Below w.heap.size w w2 := Below.trans (by exact (by repeat (first | exact Below.refl _ _ | assumption | (refine Below.setCell ?_ (by first | (simp; done) | (simp; omega) | omega) _) | (refine Below.alloc ?_ (by first | (simp; done) | (simp; omega) | omega) _) | (refine Below.drew ?_) | (refine Below.drewN' ?_ _)))) (hb.mono (by first | (simp; done) | (simp; omega) | omega)); obtain ⟨hc_w2, hf_w2⟩ := bcell hb_w2; clear hb)
  go_wp2_with fail
  go_ret
  exact ⟨rfl, (by repeat (first | exact Below.refl _ _ | assumption | (refine Below.setCell ?_ (by first | (simp; done) | (simp; omega) | omega) _) | (refine Below.alloc ?_ (by first | (simp; done) | (simp; omega) | omega) _) | (refine Below.drew ?_) | (refine Below.drewN' ?_ _)))⟩

set_option maxHeartbeats 1000000 in
theorem pointsBack_no2 (h : smallB [nd, a, id, k, n, id, index] = true) :
    Calls Try.prog 5 #[.agg #[.int .i64 nd, .int .i64 a], .int .i64 id, .int .i64 k, .int .i64 n, .int .i64 id, .int .i64 index] w (Ret (.bool true) w) := by
  have HS := Lib.hid (fun (w : World) => small7 nd a id k n id index w true h)
  clear h
  have hd : (id == id) = true := by simp
  go_enter Try.func5, Try.ntmps5
  go_wp2_with fail
  (refine (HS.out _ _ (by simp)).mono ?_; rintro e w1 ⟨rfl, hb⟩; have hz_w1 := hb.size; (try simp only [World.size_alloc, World.size_setCell, World.size_drew, size_drewN'] at hz_w1); have hb_w1 : Below w.heap.size w w1 := Below.trans (by exact (by repeat (first | exact Below.refl _ _ | assumption | (refine Below.setCell ?_ (by first | (simp; done) | (simp; omega) | omega) _) | (refine Below.alloc ?_ (by first | (simp; done) | (simp; omega) | omega) _) | (refine Below.drew ?_) | (refine Below.drewN' ?_ _)))) (hb.mono (by first | (simp; done) | (simp; omega) | omega)); obtain ⟨hc_w1, hf_w1⟩ := bcell hb_w1; clear hb)
  go_wp2_with fail
  (refine (awake10_any _).mono ?_; rintro e w2 ⟨rfl, hb⟩; have hz_w2 := hb.size; (try simp only [World.size_alloc, World.size_setCell, World.size_drew, size_drewN'] at hz_w2); have hb_w2 : Below w.heap.size w w2 := Below.trans (by exact (by repeat (first | exact Below.refl _ _ | assumption | (refine Below.setCell ?_ (by first | (simp; done) | (simp; omega) | omega) _) | (refine Below.alloc ?_ (by first | (simp; done) | (simp; omega) | omega) _) | (refine Below.drew ?_) | (refine Below.drewN' ?_ _)))) (hb.mono (by first | (simp; done) | (simp; omega) | omega)); obtain ⟨hc_w2, hf_w2⟩ := bcell hb_w2; clear hb)
  go_wp2_with fail
  go_ret
  exact ⟨rfl, (by repeat (first | exact Below.refl _ _ | assumption | (refine Below.setCell ?_ (by first | (simp; done) | (simp; omega) | omega) _) | (refine Below.alloc ?_ (by first | (simp; done) | (simp; omega) | omega) _) | (refine Below.drew ?_) | (refine Below.drewN' ?_ _)))⟩

set_option maxHeartbeats 1000000 in
theorem pointsBack_no3 (h : smallB [nd, a, id, k, n, nd, index] = true) (g1 : ¬ nd = id) :
    Calls Try.prog 5 #[.agg #[.int .i64 nd, .int .i64 a], .int .i64 id, .int .i64 k, .int .i64 n, .int .i64 nd, .int .i64 index] w (Ret (.bool true) w) := by
  have HS := Lib.hid (fun (w : World) => small7 nd a id k n nd index w true h)
  clear h
  have hd : (nd == id) = false := by simp [g1]
  have he : (nd == nd) = true := by simp
  clear g1
  go_enter Try.func5, Try.ntmps5
  go_wp2_with fail
  (refine (HS.out _ _ (by simp)).mono ?_; rintro e w1 ⟨rfl, hb⟩; have hz_w1 := hb.size; (try simp only [World.size_alloc, World.size_setCell, World.size_drew, size_drewN'] at hz_w1); have k0_w1 : At w1 (w.heap.size) 25 #[I nd, I a] := At.keep (by repeat' (first | assumption | (refine unhid ?_; assumption) | (refine At.fresh _ _ _ (by first | (simp; done) | (simp; omega) | omega)) | (apply At.set') | (apply At.far) | (apply At.alloc) | (apply At.drew) | rfl | (first | (simp; done) | (simp; omega) | omega))) hb; have k0_w1c := At.cell k0_w1; have k0_w1f := At.frozen k0_w1; have k0_w1h := Lib.hid k0_w1; clear k0_w1; have hb_w1 : Below w.heap.size w w1 := Below.trans (by exact (by repeat (first | exact Below.refl _ _ | assumption | (refine Below.setCell ?_ (by first | (simp; done) | (simp; omega) | omega) _) | (refine Below.alloc ?_ (by first | (simp; done) | (simp; omega) | omega) _) | (refine Below.drew ?_) | (refine Below.drewN' ?_ _)))) (hb.mono (by first | (simp; done) | (simp; omega) | omega)); obtain ⟨hc_w1, hf_w1⟩ := bcell hb_w1; clear hb)
  go_wp2_with fail
  (refine (awake10_any _).mono ?_; rintro e w2 ⟨rfl, hb⟩; have hz_w2 := hb.size; (try simp only [World.size_alloc, World.size_setCell, World.size_drew, size_drewN'] at hz_w2); have hb_w2 : Below w.heap.size w w2 := Below.trans (by exact (by repeat (first | exact Below.refl _ _ | assumption | (refine Below.setCell ?_ (by first | (simp; done) | (simp; omega) | omega) _) | (refine Below.alloc ?_ (by first | (simp; done) | (simp; omega) | omega) _) | (refine Below.drew ?_) | (refine Below.drewN' ?_ _)))) (hb.mono (by first | (simp; done) | (simp; omega) | omega)); obtain ⟨hc_w2, hf_w2⟩ := bcell hb_w2; clear hb)
  go_wp2_with fail
  go_ret
  exact ⟨rfl, (by repeat (first | exact Below.refl _ _ | assumption | (refine Below.setCell ?_ (by first | (simp; done) | (simp; omega) | omega) _) | (refine Below.alloc ?_ (by first | (simp; done) | (simp; omega) | omega) _) | (refine Below.drew ?_) | (refine Below.drewN' ?_ _)))⟩

set_option maxRecDepth 100000 in
set_option maxHeartbeats 8000000 in
theorem pointsBack_main (h : smallB [nd, a, id, k, n, fresh, index] = true) (g1 : ¬ fresh = id) (g2 : ¬ fresh = nd) :
    Calls Try.prog 5 #[.agg #[.int .i64 nd, .int .i64 a], .int .i64 id, .int .i64 k, .int .i64 n, .int .i64 fresh, .int .i64 index] w (Ret (.bool true) w) := by
  have hs := smallB_all h
  have h1 := hs nd (by simp)
  have h2 := hs a (by simp)
  have h3 := hs id (by simp)
  have h4 := hs k (by simp)
  have h5 := hs n (by simp)
  have h6 := hs fresh (by simp)
  have h7 := hs index (by simp)
  clear hs
  have HS := Lib.hid (fun (w : World) => small7 nd a id k n fresh index w true h)
  clear h
  -- the contracts, each at its place
  have m1 := inserted_any nd a id k 1
  have e1 := back_insert (nd := nd) (a := a) (id := id) (k := k) h1 h2 h3 h4
  obtain ⟨q, hq⟩ : ∃ q, q = insertedP (nd, a) id k 1 := ⟨_, rfl⟩
  rw [← hq] at m1 e1
  obtain ⟨q1, q2⟩ := q
  have m2 := removed_any q1 q2 id k false
  rw [e1] at m2
  have m3 := wrapped_any nd a id k n fresh
  have e3 := wrap_is (nd := nd) (a := a) (id := id) (k := k) (n := n) (fresh := fresh) h1 h2 h3 h4 h5 h6
  have e4 := back_wrap (nd := nd) (a := a) (id := id) (k := k) (n := n) (fresh := fresh) h1 h2 h3 h4 h5 h6 g1 g2
  obtain ⟨u, hu⟩ : ∃ u, u = wrappedP (nd, a) id k n fresh := ⟨_, rfl⟩
  rw [← hu] at m3 e3 e4
  obtain ⟨u1, u2⟩ := u
  have m4 := unwrapped_any u1 u2 fresh n id k
  have m5 := splitText_any nd a id k fresh 20000 index
  have e5 := split_is (nd := nd) (a := a) (id := id) (k := k) (fresh := fresh) (index := index) h1 h2 h3 h4 h6 h7
  have e6 := back_split (nd := nd) (a := a) (id := id) (k := k) (fresh := fresh) (index := index) h1 h2 h3 h4 h6 h7 g2
  obtain ⟨s, hs⟩ : ∃ s, s = splitTextP (nd, a) id k fresh 20000 index := ⟨_, rfl⟩
  rw [← hs] at m5 e5 e6
  obtain ⟨s1, s2⟩ := s
  have m6 := joinText_any s1 s2 id fresh k 20000 (index + 1)
  rw [e6] at m6
  have m7 := splitText_any 20000 a id k fresh 20000 index
  rw [up_is h2 h3 h4 h6 h7] at m7
  have e8 := back_up (a := a) (id := id) (k := k) (fresh := fresh) (index := index) h2 h3 h4 h6 h7
  obtain ⟨t, ht⟩ : ∃ t, t = if index < a then a + 1 else a := ⟨_, rfl⟩
  rw [← ht] at m7 e8
  have m8 := joinText_any 20000 t id fresh k 20000 (index + 1)
  rw [e8] at m8
  simp only [PV] at m1 m2 m3 m5 m6 m7 m8
  have M1 := Lib.hid m1
  have M2 := Lib.hid m2
  have M3 := Lib.hid m3
  have M5 := Lib.hid m5
  have M6 := Lib.hid m6
  have M7 := Lib.hid m7
  have M8 := Lib.hid m8
  have M4 : Hid (0 < n → ∀ w, Calls Try.prog 27 #[.agg #[.int .i64 u1, .int .i64 u2], .int .i64 fresh, .int .i64 n, .int .i64 id, .int .i64 k] w (Ret (.agg #[.int .i64 nd, .int .i64 a]) w)) := by
    intro hn w
    have := m4 w
    rw [e4 hn] at this
    exact this
  have E3 := Lib.hid e3
  have E5 := Lib.hid e5
  have HT := Lib.hid ht
  have G1 := Lib.hid g1
  have G2 := Lib.hid g2
  clear m1 m2 m3 m4 m5 m6 m7 m8 e1 e3 e4 e5 e6 e8 hq hu hs ht
  have n1 : (fresh == id) = false := by simp [g1]
  have n2 : (fresh == nd) = false := by simp [g2]
  have r1 : (nd == nd) = true := by simp
  have r2 : (a == a) = true := by simp
  clear g1 g2
  go_enter Try.func5, Try.ntmps5
  go_wp2_with fail
  (refine (HS.out _ _ (by simp)).mono ?_; rintro e w1 ⟨rfl, hb⟩; have hz_w1 := hb.size; (try simp only [World.size_alloc, World.size_setCell, World.size_drew, size_drewN'] at hz_w1); have k0_w1 : At w1 (w.heap.size) 25 #[I nd, I a] := At.keep (by repeat' (first | assumption | (refine unhid ?_; assumption) | (refine At.fresh _ _ _ (by first | (simp; done) | (simp; omega) | omega)) | (apply At.set') | (apply At.far) | (apply At.alloc) | (apply At.drew) | rfl | (first | (simp; done) | (simp; omega) | omega))) hb; have k0_w1c := At.cell k0_w1; have k0_w1f := At.frozen k0_w1; have k0_w1h := Lib.hid k0_w1; clear k0_w1; have hb_w1 : Below w.heap.size w w1 := Below.trans (by exact (by repeat (first | exact Below.refl _ _ | assumption | (refine Below.setCell ?_ (by first | (simp; done) | (simp; omega) | omega) _) | (refine Below.alloc ?_ (by first | (simp; done) | (simp; omega) | omega) _) | (refine Below.drew ?_) | (refine Below.drewN' ?_ _)))) (hb.mono (by first | (simp; done) | (simp; omega) | omega)); obtain ⟨hc_w1, hf_w1⟩ := bcell hb_w1; clear hb)
  go_wp2_with fail
  (refine (M1.out _).mono ?_; rintro e w2 ⟨rfl, hb⟩; have hz_w2 := hb.size; (try simp only [World.size_alloc, World.size_setCell, World.size_drew, size_drewN'] at hz_w2); have k0_w2 : At w2 (w.heap.size) 25 #[I nd, I a] := At.keep (by repeat' (first | assumption | (refine unhid ?_; assumption) | (refine At.fresh _ _ _ (by first | (simp; done) | (simp; omega) | omega)) | (apply At.set') | (apply At.far) | (apply At.alloc) | (apply At.drew) | rfl | (first | (simp; done) | (simp; omega) | omega))) hb; have k0_w2c := At.cell k0_w2; have k0_w2f := At.frozen k0_w2; have k0_w2h := Lib.hid k0_w2; clear k0_w2; have hb_w2 : Below w.heap.size w w2 := Below.trans (by exact (by repeat (first | exact Below.refl _ _ | assumption | (refine Below.setCell ?_ (by first | (simp; done) | (simp; omega) | omega) _) | (refine Below.alloc ?_ (by first | (simp; done) | (simp; omega) | omega) _) | (refine Below.drew ?_) | (refine Below.drewN' ?_ _)))) (hb.mono (by first | (simp; done) | (simp; omega) | omega)); obtain ⟨hc_w2, hf_w2⟩ := bcell hb_w2; clear hb)
  go_wp2_with fail
  (refine (M2.out _).mono ?_; rintro e w3 ⟨rfl, hb⟩; have hz_w3 := hb.size; (try simp only [World.size_alloc, World.size_setCell, World.size_drew, size_drewN'] at hz_w3); have k0_w3 : At w3 (w.heap.size) 25 #[I nd, I a] := At.keep (by repeat' (first | assumption | (refine unhid ?_; assumption) | (refine At.fresh _ _ _ (by first | (simp; done) | (simp; omega) | omega)) | (apply At.set') | (apply At.far) | (apply At.alloc) | (apply At.drew) | rfl | (first | (simp; done) | (simp; omega) | omega))) hb; have k0_w3c := At.cell k0_w3; have k0_w3f := At.frozen k0_w3; have k0_w3h := Lib.hid k0_w3; clear k0_w3; have hb_w3 : Below w.heap.size w w3 := Below.trans (by exact (by repeat (first | exact Below.refl _ _ | assumption | (refine Below.setCell ?_ (by first | (simp; done) | (simp; omega) | omega) _) | (refine Below.alloc ?_ (by first | (simp; done) | (simp; omega) | omega) _) | (refine Below.drew ?_) | (refine Below.drewN' ?_ _)))) (hb.mono (by first | (simp; done) | (simp; omega) | omega)); obtain ⟨hc_w3, hf_w3⟩ := bcell hb_w3; clear hb)
  go_wp2_with fail
  (refine (M3.out _).mono ?_; rintro e w4 ⟨rfl, hb⟩; have hz_w4 := hb.size; (try simp only [World.size_alloc, World.size_setCell, World.size_drew, size_drewN'] at hz_w4); have k0_w4 : At w4 (w.heap.size) 25 #[I nd, I a] := At.keep (by repeat' (first | assumption | (refine unhid ?_; assumption) | (refine At.fresh _ _ _ (by first | (simp; done) | (simp; omega) | omega)) | (apply At.set') | (apply At.far) | (apply At.alloc) | (apply At.drew) | rfl | (first | (simp; done) | (simp; omega) | omega))) hb; have k0_w4c := At.cell k0_w4; have k0_w4f := At.frozen k0_w4; have k0_w4h := Lib.hid k0_w4; clear k0_w4; have hb_w4 : Below w.heap.size w w4 := Below.trans (by exact (by repeat (first | exact Below.refl _ _ | assumption | (refine Below.setCell ?_ (by first | (simp; done) | (simp; omega) | omega) _) | (refine Below.alloc ?_ (by first | (simp; done) | (simp; omega) | omega) _) | (refine Below.drew ?_) | (refine Below.drewN' ?_ _)))) (hb.mono (by first | (simp; done) | (simp; omega) | omega)); obtain ⟨hc_w4, hf_w4⟩ := bcell hb_w4; clear hb)
  go_upto_region 7 with fail
  go_cut [93] (fun s93 wc => s93 = .bool false ∧ Below w.heap.size w wc ∧ At wc w.heap.size 25 #[I nd, I a])
  case first =>
    by_cases hn : 0 < n
    · have hn' : decide (0 < n) = true := by simp [hn]
      have M4' := Lib.hid (M4.out hn)
      clear hn
      have e := E3.out
      by_cases c2 : nd = id
      · have d1 : (nd == id) = true := by simp [c2]
        by_cases c3 : k < a
        · have d2 : decide (k < a) = true := by simp [c3]
          rw [if_pos ⟨c2, c3⟩] at e
          by_cases c4 : a < k + n
          · have d3 : decide (a < k + n) = true := by simp [c4]
            rw [if_pos c4] at e
            have d4 : (u1 == fresh) = true := by injection e with e1 e2; simp [e1]
            clear e c2 c3 c4
            (refine wp_region_quiet_below (by kernel_rfl) (by kernel_rfl) ?_; (repeat (go_big_quiet_step (exact quietRet (M4'.out _)))); refine wpQuiet_nil ?_; intro w5 hw'; have hb := below_class hw'; clear hw'; have hz_w5 := hb.size; (try simp only [World.size_alloc, World.size_setCell, World.size_drew, size_drewN'] at hz_w5); have k0_w5 : At w5 (w.heap.size) 25 #[I nd, I a] := At.keep (by repeat' (first | assumption | (refine unhid ?_; assumption) | (refine At.fresh _ _ _ (by first | (simp; done) | (simp; omega) | omega)) | (apply At.set') | (apply At.far) | (apply At.alloc) | (apply At.drew) | rfl | (first | (simp; done) | (simp; omega) | omega))) hb; have k0_w5c := At.cell k0_w5; have k0_w5f := At.frozen k0_w5; have k0_w5h := Lib.hid k0_w5; clear k0_w5; have hb_w5 : Below w.heap.size w w5 := Below.trans (by exact (by repeat (first | exact Below.refl _ _ | assumption | (refine Below.setCell ?_ (by first | (simp; done) | (simp; omega) | omega) _) | (refine Below.alloc ?_ (by first | (simp; done) | (simp; omega) | omega) _) | (refine Below.drew ?_) | (refine Below.drewN' ?_ _)))) (hb.mono (by first | (simp; done) | (simp; omega) | omega)); obtain ⟨hc_w5, hf_w5⟩ := bcell hb_w5; clear hb)
            go_wp2_with fail
            go_meet
            exact ⟨rfl, hb_w5, k0_w5h.out⟩
          · have d3 : decide (a < k + n) = false := by simp; omega
            rw [if_neg c4] at e
            have d4 : (u1 == fresh) = false := by injection e with e1 e2; simp [e1]; exact fun h => G1.out h.symm
            clear e c2 c3 c4
            (refine wp_region_quiet_below (by kernel_rfl) (by kernel_rfl) ?_; (repeat (go_big_quiet_step (exact quietRet (M4'.out _)))); refine wpQuiet_nil ?_; intro w5 hw'; have hb := below_class hw'; clear hw'; have hz_w5 := hb.size; (try simp only [World.size_alloc, World.size_setCell, World.size_drew, size_drewN'] at hz_w5); have k0_w5 : At w5 (w.heap.size) 25 #[I nd, I a] := At.keep (by repeat' (first | assumption | (refine unhid ?_; assumption) | (refine At.fresh _ _ _ (by first | (simp; done) | (simp; omega) | omega)) | (apply At.set') | (apply At.far) | (apply At.alloc) | (apply At.drew) | rfl | (first | (simp; done) | (simp; omega) | omega))) hb; have k0_w5c := At.cell k0_w5; have k0_w5f := At.frozen k0_w5; have k0_w5h := Lib.hid k0_w5; clear k0_w5; have hb_w5 : Below w.heap.size w w5 := Below.trans (by exact (by repeat (first | exact Below.refl _ _ | assumption | (refine Below.setCell ?_ (by first | (simp; done) | (simp; omega) | omega) _) | (refine Below.alloc ?_ (by first | (simp; done) | (simp; omega) | omega) _) | (refine Below.drew ?_) | (refine Below.drewN' ?_ _)))) (hb.mono (by first | (simp; done) | (simp; omega) | omega)); obtain ⟨hc_w5, hf_w5⟩ := bcell hb_w5; clear hb)
            go_wp2_with fail
            go_meet
            exact ⟨rfl, hb_w5, k0_w5h.out⟩
        · have d2 : decide (k < a) = false := by simp; omega
          rw [if_neg (fun h => c3 h.2)] at e
          have d4 : (u1 == fresh) = false := by injection e with e1 e2; simp [e1]; exact fun h => G2.out h.symm
          clear e c2 c3
          (refine wp_region_quiet_below (by kernel_rfl) (by kernel_rfl) ?_; (repeat (go_big_quiet_step (exact quietRet (M4'.out _)))); refine wpQuiet_nil ?_; intro w5 hw'; have hb := below_class hw'; clear hw'; have hz_w5 := hb.size; (try simp only [World.size_alloc, World.size_setCell, World.size_drew, size_drewN'] at hz_w5); have k0_w5 : At w5 (w.heap.size) 25 #[I nd, I a] := At.keep (by repeat' (first | assumption | (refine unhid ?_; assumption) | (refine At.fresh _ _ _ (by first | (simp; done) | (simp; omega) | omega)) | (apply At.set') | (apply At.far) | (apply At.alloc) | (apply At.drew) | rfl | (first | (simp; done) | (simp; omega) | omega))) hb; have k0_w5c := At.cell k0_w5; have k0_w5f := At.frozen k0_w5; have k0_w5h := Lib.hid k0_w5; clear k0_w5; have hb_w5 : Below w.heap.size w w5 := Below.trans (by exact (by repeat (first | exact Below.refl _ _ | assumption | (refine Below.setCell ?_ (by first | (simp; done) | (simp; omega) | omega) _) | (refine Below.alloc ?_ (by first | (simp; done) | (simp; omega) | omega) _) | (refine Below.drew ?_) | (refine Below.drewN' ?_ _)))) (hb.mono (by first | (simp; done) | (simp; omega) | omega)); obtain ⟨hc_w5, hf_w5⟩ := bcell hb_w5; clear hb)
          go_wp2_with fail
          go_meet
          exact ⟨rfl, hb_w5, k0_w5h.out⟩
      · have d1 : (nd == id) = false := by simp [c2]
        rw [if_neg (fun h => c2 h.1)] at e
        have d4 : (u1 == fresh) = false := by injection e with e1 e2; simp [e1]; exact fun h => G2.out h.symm
        clear e c2
        (refine wp_region_quiet_below (by kernel_rfl) (by kernel_rfl) ?_; (repeat (go_big_quiet_step (exact quietRet (M4'.out _)))); refine wpQuiet_nil ?_; intro w5 hw'; have hb := below_class hw'; clear hw'; have hz_w5 := hb.size; (try simp only [World.size_alloc, World.size_setCell, World.size_drew, size_drewN'] at hz_w5); have k0_w5 : At w5 (w.heap.size) 25 #[I nd, I a] := At.keep (by repeat' (first | assumption | (refine unhid ?_; assumption) | (refine At.fresh _ _ _ (by first | (simp; done) | (simp; omega) | omega)) | (apply At.set') | (apply At.far) | (apply At.alloc) | (apply At.drew) | rfl | (first | (simp; done) | (simp; omega) | omega))) hb; have k0_w5c := At.cell k0_w5; have k0_w5f := At.frozen k0_w5; have k0_w5h := Lib.hid k0_w5; clear k0_w5; have hb_w5 : Below w.heap.size w w5 := Below.trans (by exact (by repeat (first | exact Below.refl _ _ | assumption | (refine Below.setCell ?_ (by first | (simp; done) | (simp; omega) | omega) _) | (refine Below.alloc ?_ (by first | (simp; done) | (simp; omega) | omega) _) | (refine Below.drew ?_) | (refine Below.drewN' ?_ _)))) (hb.mono (by first | (simp; done) | (simp; omega) | omega)); obtain ⟨hc_w5, hf_w5⟩ := bcell hb_w5; clear hb)
        go_wp2_with fail
        go_meet
        exact ⟨rfl, hb_w5, k0_w5h.out⟩
    · have hn' : decide (0 < n) = false := by simp; omega
      clear hn
      (refine wp_region_quiet_below (by kernel_rfl) (by kernel_rfl) ?_; (repeat (go_big_quiet_step (fail))); refine wpQuiet_nil ?_; intro w5 hw'; have hb := below_class hw'; clear hw'; have hz_w5 := hb.size; (try simp only [World.size_alloc, World.size_setCell, World.size_drew, size_drewN'] at hz_w5); have k0_w5 : At w5 (w.heap.size) 25 #[I nd, I a] := At.keep (by repeat' (first | assumption | (refine unhid ?_; assumption) | (refine At.fresh _ _ _ (by first | (simp; done) | (simp; omega) | omega)) | (apply At.set') | (apply At.far) | (apply At.alloc) | (apply At.drew) | rfl | (first | (simp; done) | (simp; omega) | omega))) hb; have k0_w5c := At.cell k0_w5; have k0_w5f := At.frozen k0_w5; have k0_w5h := Lib.hid k0_w5; clear k0_w5; have hb_w5 : Below w.heap.size w w5 := Below.trans (by exact (by repeat (first | exact Below.refl _ _ | assumption | (refine Below.setCell ?_ (by first | (simp; done) | (simp; omega) | omega) _) | (refine Below.alloc ?_ (by first | (simp; done) | (simp; omega) | omega) _) | (refine Below.drew ?_) | (refine Below.drewN' ?_ _)))) (hb.mono (by first | (simp; done) | (simp; omega) | omega)); obtain ⟨hc_w5, hf_w5⟩ := bcell hb_w5; clear hb)
      go_wp2_with fail
      go_meet
      exact ⟨rfl, hb_w5, k0_w5h.out⟩
  case rest =>
    obtain ⟨rfl, hb_wc, k0_wc⟩ := hcut
    obtain ⟨w5, rfl⟩ : ∃ w5, w5 = wc := ⟨_, rfl⟩
    have k0_w5c := At.cell k0_wc
    have k0_w5f := At.frozen k0_wc
    have k0_w5h := Lib.hid k0_wc
    have hz_w5 := At.lt k0_wc
    clear k0_wc
    go_wp2_with fail
    (refine (M5.out _).mono ?_; rintro e w6 ⟨rfl, hb⟩; have hz_w6 := hb.size; (try simp only [World.size_alloc, World.size_setCell, World.size_drew, size_drewN'] at hz_w6); have k0_w6 : At w6 (w.heap.size) 25 #[I nd, I a] := At.keep (by repeat' (first | assumption | (refine unhid ?_; assumption) | (refine At.fresh _ _ _ (by first | (simp; done) | (simp; omega) | omega)) | (apply At.set') | (apply At.far) | (apply At.alloc) | (apply At.drew) | rfl | (first | (simp; done) | (simp; omega) | omega))) hb; have k0_w6c := At.cell k0_w6; have k0_w6f := At.frozen k0_w6; have k0_w6h := Lib.hid k0_w6; clear k0_w6; have hb_w6 : Below w.heap.size w w6 := Below.trans (by exact (by repeat (first | exact Below.refl _ _ | assumption | (refine Below.setCell ?_ (by first | (simp; done) | (simp; omega) | omega) _) | (refine Below.alloc ?_ (by first | (simp; done) | (simp; omega) | omega) _) | (refine Below.drew ?_) | (refine Below.drewN' ?_ _)))) (hb.mono (by first | (simp; done) | (simp; omega) | omega)); obtain ⟨hc_w6, hf_w6⟩ := bcell hb_w6; clear hb)
    go_upto_region 10 with fail
    go_cut [125] (fun s125 wc => s125 = .bool false ∧ Below w.heap.size w wc ∧ At wc w.heap.size 25 #[I nd, I a])
    case first =>
      have e := E5.out
      by_cases c2 : nd = id
      · have d1 : (nd == id) = true := by simp [c2]
        by_cases c3 : k < a
        · have d2 : decide (k < a) = true := by simp [c3]
          rw [if_pos ⟨c2, c3⟩] at e
          have d4 : (s1 == fresh) = true := by injection e with e1 e2; simp [e1]
          clear e c2 c3
          (refine wp_region_quiet_below (by kernel_rfl) (by kernel_rfl) ?_; (repeat (go_big_quiet_step (exact quietRet (M6.out _)))); refine wpQuiet_nil ?_; intro w7 hw'; have hb := below_class hw'; clear hw'; have hz_w7 := hb.size; (try simp only [World.size_alloc, World.size_setCell, World.size_drew, size_drewN'] at hz_w7); have k0_w7 : At w7 (w.heap.size) 25 #[I nd, I a] := At.keep (by repeat' (first | assumption | (refine unhid ?_; assumption) | (refine At.fresh _ _ _ (by first | (simp; done) | (simp; omega) | omega)) | (apply At.set') | (apply At.far) | (apply At.alloc) | (apply At.drew) | rfl | (first | (simp; done) | (simp; omega) | omega))) hb; have k0_w7c := At.cell k0_w7; have k0_w7f := At.frozen k0_w7; have k0_w7h := Lib.hid k0_w7; clear k0_w7; have hb_w7 : Below w.heap.size w w7 := Below.trans (by exact (by repeat (first | exact Below.refl _ _ | assumption | (refine Below.setCell ?_ (by first | (simp; done) | (simp; omega) | omega) _) | (refine Below.alloc ?_ (by first | (simp; done) | (simp; omega) | omega) _) | (refine Below.drew ?_) | (refine Below.drewN' ?_ _)))) (hb.mono (by first | (simp; done) | (simp; omega) | omega)); obtain ⟨hc_w7, hf_w7⟩ := bcell hb_w7; clear hb)
          go_wp2_with fail
          go_meet
          exact ⟨rfl, hb_w7, k0_w7h.out⟩
        · have d2 : decide (k < a) = false := by simp; omega
          rw [if_neg (fun h => c3 h.2)] at e
          have d4 : (s1 == fresh) = false := by injection e with e1 e2; simp [e1]; exact fun h => G2.out h.symm
          clear e c2 c3
          (refine wp_region_quiet_below (by kernel_rfl) (by kernel_rfl) ?_; (repeat (go_big_quiet_step (exact quietRet (M6.out _)))); refine wpQuiet_nil ?_; intro w7 hw'; have hb := below_class hw'; clear hw'; have hz_w7 := hb.size; (try simp only [World.size_alloc, World.size_setCell, World.size_drew, size_drewN'] at hz_w7); have k0_w7 : At w7 (w.heap.size) 25 #[I nd, I a] := At.keep (by repeat' (first | assumption | (refine unhid ?_; assumption) | (refine At.fresh _ _ _ (by first | (simp; done) | (simp; omega) | omega)) | (apply At.set') | (apply At.far) | (apply At.alloc) | (apply At.drew) | rfl | (first | (simp; done) | (simp; omega) | omega))) hb; have k0_w7c := At.cell k0_w7; have k0_w7f := At.frozen k0_w7; have k0_w7h := Lib.hid k0_w7; clear k0_w7; have hb_w7 : Below w.heap.size w w7 := Below.trans (by exact (by repeat (first | exact Below.refl _ _ | assumption | (refine Below.setCell ?_ (by first | (simp; done) | (simp; omega) | omega) _) | (refine Below.alloc ?_ (by first | (simp; done) | (simp; omega) | omega) _) | (refine Below.drew ?_) | (refine Below.drewN' ?_ _)))) (hb.mono (by first | (simp; done) | (simp; omega) | omega)); obtain ⟨hc_w7, hf_w7⟩ := bcell hb_w7; clear hb)
          go_wp2_with fail
          go_meet
          exact ⟨rfl, hb_w7, k0_w7h.out⟩
      · have d1 : (nd == id) = false := by simp [c2]
        rw [if_neg (fun h => c2 h.1)] at e
        have d4 : (s1 == fresh) = false := by injection e with e1 e2; simp [e1]; exact fun h => G2.out h.symm
        clear e c2
        (refine wp_region_quiet_below (by kernel_rfl) (by kernel_rfl) ?_; (repeat (go_big_quiet_step (exact quietRet (M6.out _)))); refine wpQuiet_nil ?_; intro w7 hw'; have hb := below_class hw'; clear hw'; have hz_w7 := hb.size; (try simp only [World.size_alloc, World.size_setCell, World.size_drew, size_drewN'] at hz_w7); have k0_w7 : At w7 (w.heap.size) 25 #[I nd, I a] := At.keep (by repeat' (first | assumption | (refine unhid ?_; assumption) | (refine At.fresh _ _ _ (by first | (simp; done) | (simp; omega) | omega)) | (apply At.set') | (apply At.far) | (apply At.alloc) | (apply At.drew) | rfl | (first | (simp; done) | (simp; omega) | omega))) hb; have k0_w7c := At.cell k0_w7; have k0_w7f := At.frozen k0_w7; have k0_w7h := Lib.hid k0_w7; clear k0_w7; have hb_w7 : Below w.heap.size w w7 := Below.trans (by exact (by repeat (first | exact Below.refl _ _ | assumption | (refine Below.setCell ?_ (by first | (simp; done) | (simp; omega) | omega) _) | (refine Below.alloc ?_ (by first | (simp; done) | (simp; omega) | omega) _) | (refine Below.drew ?_) | (refine Below.drewN' ?_ _)))) (hb.mono (by first | (simp; done) | (simp; omega) | omega)); obtain ⟨hc_w7, hf_w7⟩ := bcell hb_w7; clear hb)
        go_wp2_with fail
        go_meet
        exact ⟨rfl, hb_w7, k0_w7h.out⟩
    case rest =>
      obtain ⟨rfl, hb_wd, k0_wd⟩ := hcut
      obtain ⟨w7, rfl⟩ : ∃ w7, w7 = wc := ⟨_, rfl⟩
      have k0_w7c := At.cell k0_wd
      have k0_w7f := At.frozen k0_wd
      have k0_w7h := Lib.hid k0_wd
      have hz_w7 := At.lt k0_wd
      clear k0_wd
      go_wp2_with fail
      (refine (at_any _ _ _).mono ?_; rintro e w8 ⟨rfl, hb⟩; have hz_w8 := hb.size; (try simp only [World.size_alloc, World.size_setCell, World.size_drew, size_drewN'] at hz_w8); have k0_w8 : At w8 (w.heap.size) 25 #[I nd, I a] := At.keep (by repeat' (first | assumption | (refine unhid ?_; assumption) | (refine At.fresh _ _ _ (by first | (simp; done) | (simp; omega) | omega)) | (apply At.set') | (apply At.far) | (apply At.alloc) | (apply At.drew) | rfl | (first | (simp; done) | (simp; omega) | omega))) hb; have k0_w8c := At.cell k0_w8; have k0_w8f := At.frozen k0_w8; have k0_w8h := Lib.hid k0_w8; clear k0_w8; have hb_w8 : Below w.heap.size w w8 := Below.trans (by exact (by repeat (first | exact Below.refl _ _ | assumption | (refine Below.setCell ?_ (by first | (simp; done) | (simp; omega) | omega) _) | (refine Below.alloc ?_ (by first | (simp; done) | (simp; omega) | omega) _) | (refine Below.drew ?_) | (refine Below.drewN' ?_ _)))) (hb.mono (by first | (simp; done) | (simp; omega) | omega)); obtain ⟨hc_w8, hf_w8⟩ := bcell hb_w8; clear hb)
      go_wp2_with fail
      (refine (M7.out _).mono ?_; rintro e w9 ⟨rfl, hb⟩; have hz_w9 := hb.size; (try simp only [World.size_alloc, World.size_setCell, World.size_drew, size_drewN'] at hz_w9); have k0_w9 : At w9 (w.heap.size) 25 #[I nd, I a] := At.keep (by repeat' (first | assumption | (refine unhid ?_; assumption) | (refine At.fresh _ _ _ (by first | (simp; done) | (simp; omega) | omega)) | (apply At.set') | (apply At.far) | (apply At.alloc) | (apply At.drew) | rfl | (first | (simp; done) | (simp; omega) | omega))) hb; have k0_w9c := At.cell k0_w9; have k0_w9f := At.frozen k0_w9; have k0_w9h := Lib.hid k0_w9; clear k0_w9; have hb_w9 : Below w.heap.size w w9 := Below.trans (by exact (by repeat (first | exact Below.refl _ _ | assumption | (refine Below.setCell ?_ (by first | (simp; done) | (simp; omega) | omega) _) | (refine Below.alloc ?_ (by first | (simp; done) | (simp; omega) | omega) _) | (refine Below.drew ?_) | (refine Below.drewN' ?_ _)))) (hb.mono (by first | (simp; done) | (simp; omega) | omega)); obtain ⟨hc_w9, hf_w9⟩ := bcell hb_w9; clear hb)
      go_upto_region 13 with fail
      have p1 : ((20000 : Int) == 20000) = true := by decide
      have hx := HT.out
      by_cases c : index < a
      · rw [if_pos c] at hx
        have d1 : decide (a ≤ index) = false := by simp; omega
        have d2 : (t == a) = false := by rw [hx]; simp; omega
        have d3 : (t == index + 1) = false := by rw [hx]; simp; omega
        clear hx c
        (refine wp_region_quiet_below (by kernel_rfl) (by kernel_rfl) ?_; (repeat (go_big_quiet_step (first | exact quietRet (at_any _ _ _) | exact quietRet (M8.out _) | exact quietRet (awake10_any _)))); refine wpQuiet_nil ?_; intro w10 hw'; have hb := below_class hw'; clear hw'; have hz_w10 := hb.size; (try simp only [World.size_alloc, World.size_setCell, World.size_drew, size_drewN'] at hz_w10); have hb_w10 : Below w.heap.size w w10 := Below.trans (by exact (by repeat (first | exact Below.refl _ _ | assumption | (refine Below.setCell ?_ (by first | (simp; done) | (simp; omega) | omega) _) | (refine Below.alloc ?_ (by first | (simp; done) | (simp; omega) | omega) _) | (refine Below.drew ?_) | (refine Below.drewN' ?_ _)))) (hb.mono (by first | (simp; done) | (simp; omega) | omega)); obtain ⟨hc_w10, hf_w10⟩ := bcell hb_w10; clear hb)
        go_wp2_with fail
        go_ret
        exact ⟨rfl, (by repeat (first | exact Below.refl _ _ | assumption | (refine Below.setCell ?_ (by first | (simp; done) | (simp; omega) | omega) _) | (refine Below.alloc ?_ (by first | (simp; done) | (simp; omega) | omega) _) | (refine Below.drew ?_) | (refine Below.drewN' ?_ _)))⟩
      · rw [if_neg c] at hx
        have d1 : decide (a ≤ index) = true := by simp; omega
        have d2 : (t == a) = true := by rw [hx]; simp
        have d3 : (t == index + 1) = false := by rw [hx]; simp; omega
        clear hx c
        (refine wp_region_quiet_below (by kernel_rfl) (by kernel_rfl) ?_; (repeat (go_big_quiet_step (first | exact quietRet (at_any _ _ _) | exact quietRet (M8.out _) | exact quietRet (awake10_any _)))); refine wpQuiet_nil ?_; intro w10 hw'; have hb := below_class hw'; clear hw'; have hz_w10 := hb.size; (try simp only [World.size_alloc, World.size_setCell, World.size_drew, size_drewN'] at hz_w10); have hb_w10 : Below w.heap.size w w10 := Below.trans (by exact (by repeat (first | exact Below.refl _ _ | assumption | (refine Below.setCell ?_ (by first | (simp; done) | (simp; omega) | omega) _) | (refine Below.alloc ?_ (by first | (simp; done) | (simp; omega) | omega) _) | (refine Below.drew ?_) | (refine Below.drewN' ?_ _)))) (hb.mono (by first | (simp; done) | (simp; omega) | omega)); obtain ⟨hc_w10, hf_w10⟩ := bcell hb_w10; clear hb)
        go_wp2_with fail
        go_ret
        exact ⟨rfl, (by repeat (first | exact Below.refl _ _ | assumption | (refine Below.setCell ?_ (by first | (simp; done) | (simp; omega) | omega) _) | (refine Below.alloc ?_ (by first | (simp; done) | (simp; omega) | omega) _) | (refine Below.drew ?_) | (refine Below.drewN' ?_ _)))⟩

theorem pointsBack_any :
    Calls Try.prog 5 #[.agg #[.int .i64 nd, .int .i64 a], .int .i64 id, .int .i64 k, .int .i64 n, .int .i64 fresh, .int .i64 index] w (Ret (.bool true) w) := by
  cases h : smallB [nd, a, id, k, n, fresh, index]
  · exact pointsBack_no1 nd a id k n fresh index w h
  · by_cases g1 : fresh = id
    · subst g1
      exact pointsBack_no2 nd a fresh k n index w h
    · by_cases g2 : fresh = nd
      · subst g2
        exact pointsBack_no3 fresh a id k n index w h g1
      · exact pointsBack_main nd a id k n fresh index w h g1 g2
end
end Go.Proofs.Ytnnjlpkjpbbklaa
