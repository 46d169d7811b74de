/-
  New of package dom, where it makes a tree. Conditions: none.
-/
import Derived.Test.YtnnjlpkjpbbklaaDomMake
set_option linter.unusedVariables false
set_option linter.unusedSimpArgs false
namespace Go.Proofs.Ytnnjlpkjpbbklaa
open Go.RowKit

set_option maxHeartbeats 200000 in
theorem new_ok {w : World} {cap dep : Int} (h : newOk cap dep = true) :
    Calls Try.prog 53 #[I cap, I dep] w fun e w' => e = .returned (.tuple #[.pointer (some ⟨w.heap.size, 0, none⟩), I 0]) ∧ Tree w' w.heap.size (DT.new cap dep) (fun b => w.heap.size ≤ b) ∧ Below w.heap.size w w' := by
  have hc : 1 ≤ cap ∧ cap ≤ 2000 ∧ 0 ≤ dep ∧ dep ≤ 40 := by simp [newOk] at h; omega
  have HA : Hid (∀ W : World, At W w.heap.size 143 #[I cap, I dep, I 0, .slice none 0 0] → Below w.heap.size w W → Calls Try.prog 126 #[.pointer (some ⟨w.heap.size, 0, none⟩), .agg #[I 1, .slice none 0 0, .string ⟨#[]⟩]] W fun e w' => e = .returned (I 0) ∧ Tree w' w.heap.size (DT.new cap dep) (fun b => w.heap.size ≤ b) ∧ Below w.heap.size w w') := by
    intro W hA hb
    have hz := hb.size
    have e0 : (⟨cap, dep, []⟩ : DT).slot = 0 := by simp [DT.slot]
    have e1 : (⟨cap, dep, []⟩ : DT).addAt ⟨1, [], ByteArray.empty, [], none⟩ = DT.new cap dep := by simp [DT.addAt, DT.slot, DT.new]
    have hR : Rep W w.heap.size ⟨cap, dep, []⟩ (.slice none 0 0) [] := ⟨hA, rfl, World.ownsRow_nil _ _ _ _, fun i n hn => by simp [DT.at_] at hn, fun i hi => by simp at hi, by simp [repBlocks, Value.ownBlock]⟩
    refine (add_any hR (S := fun b => b = w.heap.size) (fun b hb1 => by simpa [repBlocks, Value.ownBlock] using hb1) (by simp) (tag := 1) (text := ByteArray.empty) (al := []) (RowR.nil W 2) (Nat.zero_le _)).mono ?_
    rintro e w' ⟨he, ⟨nv, G, hr, hs⟩, ho⟩
    rw [e0] at he
    rw [e1] at hr
    clear e0 e1
    refine ⟨he, ⟨nv, G, hr, fun b hb1 => ?_⟩, ?_⟩
    · rcases hs b hb1 with h1 | h1 <;> omega
    · exact ⟨ho.os.trans hb.os, ho.tape.trans hb.tape, ho.output.trans hb.output, Nat.le_trans hz ho.size, fun k hk => (ho.block k (Nat.lt_of_lt_of_le hk hz) (show ¬ (k = w.heap.size) by omega)).trans (hb.block k hk)⟩
  have h1 : decide (1 ≤ cap) = true := by simp; omega
  go_enter Try.func53, Try.ntmps53
  go_wp2_with (go_at_call 126; refine (HA.out _ (by (repeat' (first | (with_reducible assumption) | (with_reducible refine unhid ?_; with_reducible assumption) | (with_reducible refine At.fresh _ _ _ (by first | (simp; done) | (simp; omega) | omega)) | (with_reducible apply At.set') | (with_reducible apply At.far) | (with_reducible apply At.alloc) | (with_reducible apply At.drew) | (with_reducible apply At.drewN) | exact (rfl : Array.setIfInBounds _ _ _ = _) | (refine Ne.symm ?_; simp; done) | (show _ ≠ _; simp; done) | (show _ ≠ _; simp; omega) | (show _ ≠ _; omega))); (first | done | fail)) (by repeat (first | exact Below.refl _ _ | assumption | (refine Below.setCell ?_ (by first | (simp; done) | (simp; omega) | omega) _) | (refine Below.alloc ?_ (by first | (simp; done) | (simp; omega) | omega) _) | (refine Below.drew ?_) | (refine Below.drewN' ?_ _)))).mono ?_; rintro e w3 ⟨rfl, hm⟩; have HM := Lib.hid hm; clear hm)
  all_goals (first | (go_ret2; exact ⟨rfl, HM.out⟩) | (exfalso; omega))
end Go.Proofs.Ytnnjlpkjpbbklaa
