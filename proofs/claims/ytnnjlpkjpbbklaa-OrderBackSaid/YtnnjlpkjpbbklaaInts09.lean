/-
  Ints of the document's answer of chapter 9: true of equal rows. Conditions: both lie in memory.
-/
import Derived.Test.YtnnjlpkjpbbklaaOrdA
set_option linter.unusedVariables false
set_option linter.unusedSimpArgs false
namespace Go.Proofs.Ytnnjlpkjpbbklaa
open Go.RowKit
set_option maxRecDepth 100000 in
set_option maxHeartbeats 1000000 in
theorem ints_eq {w : World} {v1 v2 : Value} {zs : List Int} (h1 : LI w v1 zs) (h2 : LI w v2 zs) (hn : zs.length ≤ 1000000) :
    Calls Try.prog 86 #[v1, v2] w (Ret (.bool true) w) := by
  obtain ⟨A1, c1, rfl, hc1, hm1, g1⟩ := h1
  obtain ⟨A2, c2, rfl, hc2, hm2, g2⟩ := h2
  have G1 := Lib.hid g1
  have G2 := Lib.hid g2
  clear g1 g2
  obtain ⟨n, hnn⟩ : ∃ n, n = zs.length := ⟨_, rfl⟩
  rw [← hnn] at hn hc1 hc2 ⊢
  have HN := Lib.hid hnn
  clear hnn
  have hd : ((n : Int) != (n : Int)) = false := by simp
  go_enter Try.func86, Try.ntmps86
  go_wp2_with fail
  go_loopw [5] (fun s5 wr => ∃ k : Nat, k ≤ n ∧ s5 = .int .i64 (k : Int) ∧ Hid (Below w.heap.size w wr)) (fun s5 _ => n - (intOf s5).toNat)
  case atStart => exact ⟨0, Nat.zero_le _, rfl, Below.refl _ _⟩
  case round =>
    obtain ⟨k, hk, rfl, hbr⟩ := hrel
    by_cases hlt : k < n
    · have hlt1 : (k : Int) < (n : Int) := by omega
      have hz : k < zs.length := by have := HN.out; omega
      obtain ⟨b1, o1, e1, q1⟩ := G1.out k hz
      subst e1
      obtain ⟨b2, o2, e2, q2⟩ := G2.out k hz
      subst e2
      rw [← hbr.out.cell (p := ⟨b1, o1 + k, none⟩) (World.block_lt_of_cell? w _ q1)] at q1
      rw [← hbr.out.cell (p := ⟨b2, o2 + k, none⟩) (World.block_lt_of_cell? w _ q2)] at q2
      generalize zs[k] = x at *
      have hx : (x != x) = false := by simp
      go_wp2_with fail
      go_quiet (fail)
      go_wp2_with fail
      exact ⟨⟨k + 1, by omega, by go_num, hbr.out.drewN' nq⟩, by simp [intOf]; omega⟩
    · have hkn : k = n := by omega
      subst hkn
      go_wp2_with fail
      go_ret
      exact ⟨rfl, hbr.out⟩
end Go.Proofs.Ytnnjlpkjpbbklaa
