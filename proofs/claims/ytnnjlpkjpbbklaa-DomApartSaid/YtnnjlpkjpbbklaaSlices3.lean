/-
  slices.Delete of one element at []int. Conditions: none.
-/
import Derived.Test.YtnnjlpkjpbbklaaSlices2
set_option linter.unusedVariables false
set_option linter.unusedSimpArgs false
namespace Go.Proofs.Ytnnjlpkjpbbklaa
open Go.RowKit Go.Shelf

theorem delete_any {w : World} {v : Value} {n i : Nat} {zs : List Int} (h : Row w 3 1 v n (zs.map (Value.int .i64))) (hi : i < n) :
    Calls Try.prog 118 #[v, .int .i64 i, .int .i64 ((i + 1 : Nat) : Int)] w fun e w' => ∃ v', e = .returned v' ∧ Row w' 3 1 v' (n - 1) ((zs.take i ++ zs.drop (i + 1)).map (Value.int .i64)) ∧ Only (fun b => v.ownBlock = some b) w w' ∧ v'.ownBlock = v.ownBlock := by
  have hzl : zs.length = n := by simpa using h.1
  rcases h.2 with ⟨h0, h1⟩ | ⟨g, cap, cur, rfl, _, hg, hc, hm, hs, ht⟩
  · omega
  · have hA : At w g 3 cur := hg
    simp only [Nat.mul_one] at hs ht
    have hcell : ∀ j, w.cell? ⟨g, j, none⟩ = cur[j]? := hA.cell
    have hct : ∀ j, j < zs.length → w.cell? ⟨g, 0 + j, none⟩ = some (.int .i64 (zs.getD j 0)) := by
      intro j hj
      have h1 : (zs.map (Value.int .i64))[j]? = some (.int .i64 (zs.getD j 0)) := by simp [List.getD, List.getElem?_eq_getElem hj]
      rw [Nat.zero_add, hcell j, ← Array.getElem?_toList]
      rw [← ht, List.getElem?_take] at h1
      split at h1
      · exact h1
      · cases h1
    refine (Any.slices_Delete_int_cells laysDelete g 0 n cap i (i + 1) zs w (by omega) hc (by unfold maxLen at hm; omega) (by omega) (by omega) hct (fun j hj => hA.frozen _)).mono ?_
    rintro e w' ⟨rfl, q, rfl⟩
    have e1 : n - (i + 1 - i) = n - 1 := by omega
    have e2 : i + 1 - i = 1 := by omega
    have e3 : zs.take n = zs := List.take_of_length_le (by omega)
    rw [e1, e2, e3]
    have hA1 := At.setCells ((zs.take i ++ zs.drop (i + 1) ++ List.replicate 1 0).map (Value.int .i64)) 0 (At.drewN hA q)
    have p1 := setCells_plain g ((zs.take i ++ zs.drop (i + 1) ++ List.replicate 1 0).map (Value.int .i64)) 0 (w.drewN q)
    refine ⟨_, rfl, ⟨?_, .inr ⟨g, cap, _, rfl, Nat.zero_le _, hA1, by omega, hm, ?_, ?_⟩⟩, ⟨p1.2.1, p1.2.2.1, p1.2.2.2, Nat.le_of_eq p1.1.symm, ?_⟩, rfl⟩
    · simp; omega
    · rw [wr_size, hs, Nat.mul_one]
    · rw [Nat.mul_one, wr_list _ _ _ (by simp; omega)]
      simp only [List.take_zero, List.nil_append, List.map_append, List.append_assoc]
      rw [← List.append_assoc, List.take_append_of_le_length (by simp; omega), List.take_of_length_le (by simp; omega)]
    · intro k hk hn
      have hkg : k ≠ g := fun e => hn (by rw [e]; rfl)
      rw [setCells_other _ _ _ _ _ hkg]
      rfl
end Go.Proofs.Ytnnjlpkjpbbklaa
