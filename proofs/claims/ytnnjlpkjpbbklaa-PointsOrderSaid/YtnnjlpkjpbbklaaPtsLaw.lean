/-
  The helpers of the laws of places: small, at, awake. Conditions: none (small: a slice that was just made).
-/
import Derived.Test.YtnnjlpkjpbbklaaPts4
set_option linter.unusedVariables false
set_option linter.unusedSimpArgs false
namespace Go.Proofs.Ytnnjlpkjpbbklaa
open Go.RowKit

def big (n : Int) : Bool := decide (n < 0) || decide (10000 < n)
def smallB (l : List Int) : Bool := !l.any big

set_option maxHeartbeats 400000 in
theorem small_any (b n c : Nat) (zs : List Int) (w : World) (hl : zs.length = n) (hn : n ≤ 1000)
    (hc : ∀ j, j < n → w.cell? ⟨b, j, none⟩ = some (.int .i64 (zs.getD j 0))) :
    Calls Try.prog 19 #[.slice (some ⟨b, 0, none⟩) n c] w fun e w' => e = .returned (.bool (smallB zs)) ∧ w = w' := by
  have HL := Lib.hid hl; clear hl
  have HC := Lib.hid hc; clear hc
  go_enter Try.func19, Try.ntmps19
  go_wp2_with fail
  go_loop [3] (fun i => ∃ k : Nat, k ≤ n ∧ i = .int .i64 k ∧ Hid ((zs.take k).any big = false)) (fun i => n - (intOf i).toNat)
  case atStart => exact ⟨0, Nat.zero_le _, rfl, by simp [Hid]⟩
  case round =>
    obtain ⟨k, hk, rfl, hno⟩ := hrel
    by_cases hlt : k < n
    · have hcell := HC.out k hlt
      have hts := any_take_succ big zs k (by have := HL.out; omega)
      have hmem : big (zs.getD k 0) = true → zs.any big = true := by
        intro h
        have : zs.getD k 0 ∈ zs := by
          have hkl : k < zs.length := by have := HL.out; omega
          simp [List.getD, List.getElem?_eq_getElem hkl]
        exact List.any_eq_true.2 ⟨_, this, h⟩
      generalize zs.getD k 0 = x at hcell hts hmem
      have HT := Lib.hid hts; clear hts
      have HM := Lib.hid hmem; clear hmem
      by_cases h0 : x < 0
      · have hd : decide (x < 0) = true := by simp [h0]
        go_wp2_with fail
        go_ret
        exact ⟨ret_bool (by rw [smallB, HM.out (by simp [big, h0])]; rfl), rfl⟩
      · have hd : decide (x < 0) = false := by simp; omega
        by_cases h1 : 10000 < x
        · go_wp2_with fail
          go_ret
          exact ⟨ret_bool (by rw [smallB, HM.out (by simp [big, h1])]; rfl), rfl⟩
        · have hx : big x = false := by simp [big]; omega
          have HX := Lib.hid hx; clear hx
          go_wp2_with fail
          refine ⟨⟨k + 1, by omega, by go_num, ?_⟩, by simp [intOf]; omega⟩
          show _ = _
          rw [HT.out, HX.out, hno.out]; rfl
    · have hkn : k = n := by omega
      subst hkn
      go_wp2_with fail
      go_ret
      have := hno.out
      rw [List.take_of_length_le (by have := HL.out; omega)] at this
      exact ⟨ret_bool (by rw [smallB, this]; rfl), rfl⟩

theorem small_new (l : List Int) (w : World) (r : Bool) (hr : smallB l = r) (hn : l.length ≤ 10) (n : Nat) (hl : l.length = n) (cs : Array Value) (hcs : cs = (l.map (Value.int .i64)).toArray) (b : Nat) (hb : b = w.heap.size) :
    Calls Try.prog 19 #[.slice (some ⟨b, 0, none⟩) n n] (w.alloc (.cells cs 3)) (Ret (.bool r) (w.alloc (.cells cs 3))) := by
  subst hr
  subst hb
  refine (small_any w.heap.size n n l _ hl (by omega) ?_).mono ?_
  · intro j hj
    subst hcs
    rw [World.cell?_alloc_new]
    simp [List.getD, show j < l.length by omega]
  · rintro e w1 ⟨rfl, rfl⟩
    exact ⟨rfl, Below.refl _ _⟩

theorem smallB_all {l : List Int} (h : smallB l = true) : ∀ x ∈ l, 0 ≤ x ∧ x ≤ 10000 := by
  intro x hx
  have : (l.any big) = false := by simpa [smallB] using h
  have := List.any_eq_false.1 this x hx
  simp [big] at this
  omega

set_option maxHeartbeats 400000 in
theorem at_any (n k : Int) (w : World) :
    Calls Try.prog 21 #[.int .i64 n, .int .i64 k] w (Ret (.agg #[.int .i64 n, .int .i64 k]) w) := by
  go_enter Try.func21, Try.ntmps21
  go_wp2
  exact bodyPost_ret (v := .agg #[.int .i64 n, .int .i64 k]) (by simp [results, Try.results21, go_sem]) rfl ⟨rfl, (Below.refl _ _).alloc (Nat.le_refl _) _⟩

set_option maxHeartbeats 2000000 in
theorem awake10_any (w : World) : Calls Try.prog 20 #[] w (Ret (.bool true) w) := by
  have h1 := inserted_any 5 2 5 1 3
  simp only [show insertedP (5, 2) 5 1 3 = ((5, 5) : Int × Int) by decide] at h1
  have h1 := Lib.hid h1
  have h2 := removed_any 7 9 5 2 true
  simp only [show removedP (7, 9) 5 2 true = ((5, 2) : Int × Int) by decide] at h2
  have h2 := Lib.hid h2
  have h3 := replaced_any 4 6 4 2 3 1
  simp only [show replacedP (4, 6) 4 2 3 1 = ((4, 4) : Int × Int) by decide] at h3
  have h3 := Lib.hid h3
  have h4 := splitText_any 4 6 4 2 9 5 0
  simp only [show splitTextP (4, 6) 4 2 9 5 0 = ((9, 4) : Int × Int) by decide] at h4
  have h4 := Lib.hid h4
  have h5 := wrapped_any 5 4 5 1 3 9
  simp only [show wrappedP (5, 4) 5 1 3 9 = ((5, 2) : Int × Int) by decide] at h5
  have h5 := Lib.hid h5
  go_enter Try.func20, Try.ntmps20
  go_wp2_with fail
  ((with_reducible refine (at_any _ _ _).mono ?_); rintro e w1 ⟨rfl, hb⟩; have hz_w1 := hb.size; (try simp only [World.size_alloc, World.size_setCell, World.size_drew, size_drewN'] at hz_w1); have hb_w1 : Below w.heap.size w w1 := Below.trans (by exact (by repeat (first | exact Below.refl _ _ | assumption | (refine Below.setCell ?_ (by first | (simp; done) | (simp; omega) | omega) _) | (refine Below.alloc ?_ (by first | (simp; done) | (simp; omega) | omega) _) | (refine Below.drew ?_) | (refine Below.drewN' ?_ _)))) (hb.mono (by first | (simp; done) | (simp; omega) | omega)); obtain ⟨hc_w1, hf_w1⟩ := bcell hb_w1; clear hb)
  go_wp2_with fail
  ((with_reducible refine (h1.out _).mono ?_); rintro e w2 ⟨rfl, hb⟩; have hz_w2 := hb.size; (try simp only [World.size_alloc, World.size_setCell, World.size_drew, size_drewN'] at hz_w2); have hb_w2 : Below w.heap.size w w2 := Below.trans (by exact (by repeat (first | exact Below.refl _ _ | assumption | (refine Below.setCell ?_ (by first | (simp; done) | (simp; omega) | omega) _) | (refine Below.alloc ?_ (by first | (simp; done) | (simp; omega) | omega) _) | (refine Below.drew ?_) | (refine Below.drewN' ?_ _)))) (hb.mono (by first | (simp; done) | (simp; omega) | omega)); obtain ⟨hc_w2, hf_w2⟩ := bcell hb_w2; clear hb)
  go_wp2_with fail
  ((with_reducible refine (at_any _ _ _).mono ?_); rintro e w3 ⟨rfl, hb⟩; have hz_w3 := hb.size; (try simp only [World.size_alloc, World.size_setCell, World.size_drew, size_drewN'] at hz_w3); have hb_w3 : Below w.heap.size w w3 := Below.trans (by exact (by repeat (first | exact Below.refl _ _ | assumption | (refine Below.setCell ?_ (by first | (simp; done) | (simp; omega) | omega) _) | (refine Below.alloc ?_ (by first | (simp; done) | (simp; omega) | omega) _) | (refine Below.drew ?_) | (refine Below.drewN' ?_ _)))) (hb.mono (by first | (simp; done) | (simp; omega) | omega)); obtain ⟨hc_w3, hf_w3⟩ := bcell hb_w3; clear hb)
  go_wp2_with fail
  ((with_reducible refine (at_any _ _ _).mono ?_); rintro e w4 ⟨rfl, hb⟩; have hz_w4 := hb.size; (try simp only [World.size_alloc, World.size_setCell, World.size_drew, size_drewN'] at hz_w4); have hb_w4 : Below w.heap.size w w4 := Below.trans (by exact (by repeat (first | exact Below.refl _ _ | assumption | (refine Below.setCell ?_ (by first | (simp; done) | (simp; omega) | omega) _) | (refine Below.alloc ?_ (by first | (simp; done) | (simp; omega) | omega) _) | (refine Below.drew ?_) | (refine Below.drewN' ?_ _)))) (hb.mono (by first | (simp; done) | (simp; omega) | omega)); obtain ⟨hc_w4, hf_w4⟩ := bcell hb_w4; clear hb)
  go_wp2_with fail
  ((with_reducible refine (h2.out _).mono ?_); rintro e w5 ⟨rfl, hb⟩; have hz_w5 := hb.size; (try simp only [World.size_alloc, World.size_setCell, World.size_drew, size_drewN'] at hz_w5); have hb_w5 : Below w.heap.size w w5 := Below.trans (by exact (by repeat (first | exact Below.refl _ _ | assumption | (refine Below.setCell ?_ (by first | (simp; done) | (simp; omega) | omega) _) | (refine Below.alloc ?_ (by first | (simp; done) | (simp; omega) | omega) _) | (refine Below.drew ?_) | (refine Below.drewN' ?_ _)))) (hb.mono (by first | (simp; done) | (simp; omega) | omega)); obtain ⟨hc_w5, hf_w5⟩ := bcell hb_w5; clear hb)
  go_wp2_with fail
  ((with_reducible refine (at_any _ _ _).mono ?_); rintro e w6 ⟨rfl, hb⟩; have hz_w6 := hb.size; (try simp only [World.size_alloc, World.size_setCell, World.size_drew, size_drewN'] at hz_w6); have hb_w6 : Below w.heap.size w w6 := Below.trans (by exact (by repeat (first | exact Below.refl _ _ | assumption | (refine Below.setCell ?_ (by first | (simp; done) | (simp; omega) | omega) _) | (refine Below.alloc ?_ (by first | (simp; done) | (simp; omega) | omega) _) | (refine Below.drew ?_) | (refine Below.drewN' ?_ _)))) (hb.mono (by first | (simp; done) | (simp; omega) | omega)); obtain ⟨hc_w6, hf_w6⟩ := bcell hb_w6; clear hb)
  go_wp2_with fail
  ((with_reducible refine (at_any _ _ _).mono ?_); rintro e w7 ⟨rfl, hb⟩; have hz_w7 := hb.size; (try simp only [World.size_alloc, World.size_setCell, World.size_drew, size_drewN'] at hz_w7); have hb_w7 : Below w.heap.size w w7 := Below.trans (by exact (by repeat (first | exact Below.refl _ _ | assumption | (refine Below.setCell ?_ (by first | (simp; done) | (simp; omega) | omega) _) | (refine Below.alloc ?_ (by first | (simp; done) | (simp; omega) | omega) _) | (refine Below.drew ?_) | (refine Below.drewN' ?_ _)))) (hb.mono (by first | (simp; done) | (simp; omega) | omega)); obtain ⟨hc_w7, hf_w7⟩ := bcell hb_w7; clear hb)
  go_wp2_with fail
  ((with_reducible refine (h3.out _).mono ?_); rintro e w8 ⟨rfl, hb⟩; have hz_w8 := hb.size; (try simp only [World.size_alloc, World.size_setCell, World.size_drew, size_drewN'] at hz_w8); have hb_w8 : Below w.heap.size w w8 := Below.trans (by exact (by repeat (first | exact Below.refl _ _ | assumption | (refine Below.setCell ?_ (by first | (simp; done) | (simp; omega) | omega) _) | (refine Below.alloc ?_ (by first | (simp; done) | (simp; omega) | omega) _) | (refine Below.drew ?_) | (refine Below.drewN' ?_ _)))) (hb.mono (by first | (simp; done) | (simp; omega) | omega)); obtain ⟨hc_w8, hf_w8⟩ := bcell hb_w8; clear hb)
  go_wp2_with fail
  ((with_reducible refine (at_any _ _ _).mono ?_); rintro e w9 ⟨rfl, hb⟩; have hz_w9 := hb.size; (try simp only [World.size_alloc, World.size_setCell, World.size_drew, size_drewN'] at hz_w9); have hb_w9 : Below w.heap.size w w9 := Below.trans (by exact (by repeat (first | exact Below.refl _ _ | assumption | (refine Below.setCell ?_ (by first | (simp; done) | (simp; omega) | omega) _) | (refine Below.alloc ?_ (by first | (simp; done) | (simp; omega) | omega) _) | (refine Below.drew ?_) | (refine Below.drewN' ?_ _)))) (hb.mono (by first | (simp; done) | (simp; omega) | omega)); obtain ⟨hc_w9, hf_w9⟩ := bcell hb_w9; clear hb)
  go_wp2_with fail
  ((with_reducible refine (at_any _ _ _).mono ?_); rintro e w10 ⟨rfl, hb⟩; have hz_w10 := hb.size; (try simp only [World.size_alloc, World.size_setCell, World.size_drew, size_drewN'] at hz_w10); have hb_w10 : Below w.heap.size w w10 := Below.trans (by exact (by repeat (first | exact Below.refl _ _ | assumption | (refine Below.setCell ?_ (by first | (simp; done) | (simp; omega) | omega) _) | (refine Below.alloc ?_ (by first | (simp; done) | (simp; omega) | omega) _) | (refine Below.drew ?_) | (refine Below.drewN' ?_ _)))) (hb.mono (by first | (simp; done) | (simp; omega) | omega)); obtain ⟨hc_w10, hf_w10⟩ := bcell hb_w10; clear hb)
  go_wp2_with fail
  ((with_reducible refine (h4.out _).mono ?_); rintro e w11 ⟨rfl, hb⟩; have hz_w11 := hb.size; (try simp only [World.size_alloc, World.size_setCell, World.size_drew, size_drewN'] at hz_w11); have hb_w11 : Below w.heap.size w w11 := Below.trans (by exact (by repeat (first | exact Below.refl _ _ | assumption | (refine Below.setCell ?_ (by first | (simp; done) | (simp; omega) | omega) _) | (refine Below.alloc ?_ (by first | (simp; done) | (simp; omega) | omega) _) | (refine Below.drew ?_) | (refine Below.drewN' ?_ _)))) (hb.mono (by first | (simp; done) | (simp; omega) | omega)); obtain ⟨hc_w11, hf_w11⟩ := bcell hb_w11; clear hb)
  go_wp2_with fail
  ((with_reducible refine (at_any _ _ _).mono ?_); rintro e w12 ⟨rfl, hb⟩; have hz_w12 := hb.size; (try simp only [World.size_alloc, World.size_setCell, World.size_drew, size_drewN'] at hz_w12); have hb_w12 : Below w.heap.size w w12 := Below.trans (by exact (by repeat (first | exact Below.refl _ _ | assumption | (refine Below.setCell ?_ (by first | (simp; done) | (simp; omega) | omega) _) | (refine Below.alloc ?_ (by first | (simp; done) | (simp; omega) | omega) _) | (refine Below.drew ?_) | (refine Below.drewN' ?_ _)))) (hb.mono (by first | (simp; done) | (simp; omega) | omega)); obtain ⟨hc_w12, hf_w12⟩ := bcell hb_w12; clear hb)
  go_wp2_with fail
  ((with_reducible refine (at_any _ _ _).mono ?_); rintro e w13 ⟨rfl, hb⟩; have hz_w13 := hb.size; (try simp only [World.size_alloc, World.size_setCell, World.size_drew, size_drewN'] at hz_w13); have hb_w13 : Below w.heap.size w w13 := Below.trans (by exact (by repeat (first | exact Below.refl _ _ | assumption | (refine Below.setCell ?_ (by first | (simp; done) | (simp; omega) | omega) _) | (refine Below.alloc ?_ (by first | (simp; done) | (simp; omega) | omega) _) | (refine Below.drew ?_) | (refine Below.drewN' ?_ _)))) (hb.mono (by first | (simp; done) | (simp; omega) | omega)); obtain ⟨hc_w13, hf_w13⟩ := bcell hb_w13; clear hb)
  go_wp2_with fail
  ((with_reducible refine (h5.out _).mono ?_); rintro e w14 ⟨rfl, hb⟩; have hz_w14 := hb.size; (try simp only [World.size_alloc, World.size_setCell, World.size_drew, size_drewN'] at hz_w14); have hb_w14 : Below w.heap.size w w14 := Below.trans (by exact (by repeat (first | exact Below.refl _ _ | assumption | (refine Below.setCell ?_ (by first | (simp; done) | (simp; omega) | omega) _) | (refine Below.alloc ?_ (by first | (simp; done) | (simp; omega) | omega) _) | (refine Below.drew ?_) | (refine Below.drewN' ?_ _)))) (hb.mono (by first | (simp; done) | (simp; omega) | omega)); obtain ⟨hc_w14, hf_w14⟩ := bcell hb_w14; clear hb)
  go_wp2_with fail
  ((with_reducible refine (at_any _ _ _).mono ?_); rintro e w15 ⟨rfl, hb⟩; have hz_w15 := hb.size; (try simp only [World.size_alloc, World.size_setCell, World.size_drew, size_drewN'] at hz_w15); have hb_w15 : Below w.heap.size w w15 := Below.trans (by exact (by repeat (first | exact Below.refl _ _ | assumption | (refine Below.setCell ?_ (by first | (simp; done) | (simp; omega) | omega) _) | (refine Below.alloc ?_ (by first | (simp; done) | (simp; omega) | omega) _) | (refine Below.drew ?_) | (refine Below.drewN' ?_ _)))) (hb.mono (by first | (simp; done) | (simp; omega) | omega)); obtain ⟨hc_w15, hf_w15⟩ := bcell hb_w15; clear hb)
  go_wp2_with fail
  go_ret
  exact ⟨rfl, (by repeat (first | exact Below.refl _ _ | assumption | (refine Below.setCell ?_ (by first | (simp; done) | (simp; omega) | omega) _) | (refine Below.alloc ?_ (by first | (simp; done) | (simp; omega) | omega) _) | (refine Below.drew ?_) | (refine Below.drewN' ?_ _)))⟩
end Go.Proofs.Ytnnjlpkjpbbklaa
