/-
  measure of package dom. Conditions: the plain tree lies in memory; it is not very large.
-/
import Derived.Test.YtnnjlpkjpbbklaaDomMeasure
set_option linter.unusedVariables false
set_option linter.unusedSimpArgs false
namespace Go.Proofs.Ytnnjlpkjpbbklaa
open Go.RowKit

theorem PNode.err_zero (n : PNode) : n.err anew 0 = 0 ∨ n.err anew 0 = 1 ∨ n.err anew 0 = 10 := by
  have key : ∀ (n : PNode) (e : Int), (e = 0 ∨ e = 1 ∨ e = 10) → (n.err anew e = 0 ∨ n.err anew e = 1 ∨ n.err anew e = 10) := by
    intro n
    induction n using PNode.ind with
    | h t a x ks ih =>
      intro e he
      unfold PNode.err
      have h0 : PNode.worse e (PNode.badOne t a x ks) (decide (8192 < (anew x).size)) = 0 ∨ PNode.worse e (PNode.badOne t a x ks) (decide (8192 < (anew x).size)) = 1 ∨ PNode.worse e (PNode.badOne t a x ks) (decide (8192 < (anew x).size)) = 10 := by
        unfold PNode.worse
        split
        · exact .inr (.inl rfl)
        · split
          · exact .inr (.inr rfl)
          · exact he
      generalize PNode.worse e (PNode.badOne t a x ks) (decide (8192 < (anew x).size)) = e' at h0
      clear he
      induction ks generalizing e' with
      | nil => exact h0
      | cons k ks ih2 => exact ih2 (fun k hk => ih k (by simp [hk])) _ (ih k (by simp) e' h0)
  exact key n 0 (.inl rfl)

set_option maxHeartbeats 1000000 in
theorem measure_any {w : World} {V : VN} {R : Nat → Prop} (hP : PV w R V) (hR : ∀ b, R b → b < w.heap.size) (hs : V.node.small) (hz : V.node.size ≤ 100000) :
    Calls Try.prog 123 #[V.agg] w (Ret (.tuple #[I (V.node.size : Int), I (V.node.high : Int), I (V.node.err anew 0)]) w) := by
  have hhi := PNode.high_size V.node
  have HM : Hid (∀ W, Below w.heap.size w W → Cnt (w.heap.size + 1) (w.heap.size + 1 + 1) (w.heap.size + 1 + 1 + 1) (w.heap.size + 1 + 1 + 1 + 1) 0 0 0 W → Calls Try.prog 171 #[V.agg, I 0, .pointer (some ⟨w.heap.size + 1, 0, none⟩), .pointer (some ⟨w.heap.size + 1 + 1, 0, none⟩), .pointer (some ⟨w.heap.size + 1 + 1 + 1, 0, none⟩), .pointer (some ⟨w.heap.size + 1 + 1 + 1 + 1, 0, none⟩)] W fun r w' => r = .returned (.tuple #[]) ∧
      Cnt (w.heap.size + 1) (w.heap.size + 1 + 1) (w.heap.size + 1 + 1 + 1) (w.heap.size + 1 + 1 + 1 + 1) V.node.size V.node.high (V.node.err anew 0) w' ∧ Below w.heap.size w w') := by
    intro W hb hC
    have hzW := hb.size
    refine (measure1_at (by omega) V R W 0 0 0 0 (hP.keepB hb hR) (fun b hb1 => by have := hR b hb1; omega) hs hC (by omega) (by omega) (by omega) (by omega) (by omega) (by omega)).mono ?_
    rintro r w' ⟨hr, hC', hO⟩
    have e1 : (0 : Int) + (V.node.size : Int) = V.node.size := by omega
    have e2 : max (0 : Int) (0 + (V.node.high : Int)) = V.node.high := by omega
    rw [e1, e2] at hC'
    exact ⟨hr, hC', hO.os.trans hb.os, hO.tape.trans hb.tape, hO.output.trans hb.output, Nat.le_trans hzW hO.size, fun b hb1 => (hO.block b (by omega) (by omega)).trans (hb.block b hb1)⟩
  have hsz0 : V.node.size ≤ 100000 := hz
  have hh0 : V.node.high ≤ 100000 := by omega
  obtain ⟨t, al, x, av, kv, ks⟩ := V
  obtain ⟨a5, n5, c5, a6, n6, c6, rfl, rfl⟩ := VN.forms hP
  generalize hN : (VN.mk t al x (.slice a5 n5 c5) (.slice a6 n6 c6) ks).node = nd at *
  dsimp only [VN.agg] at HM ⊢
  generalize hsz : nd.size = sz at *
  generalize hhg : nd.high = hg at *
  generalize her : nd.err anew 0 = er at *
  clear hP hR hs hN hz hhi hsz hhg her
  go_enter Try.func123, Try.ntmps123
  go_wp2_with ((with_reducible refine (HM.out _ (by repeat (first | exact Below.refl _ _ | assumption | (refine Below.setCell ?_ (by first | (simp; done) | (simp; omega) | omega) _) | (refine Below.alloc ?_ (by first | (simp; done) | (simp; omega) | omega) _) | (refine Below.drew ?_) | (refine Below.drewN' ?_ _))) ⟨(by (repeat' (first | (with_reducible assumption) | (with_reducible refine unhid ?_; with_reducible assumption) | (with_reducible refine At.fresh _ _ _ (by first | (simp; done) | (simp; omega) | omega)) | (with_reducible apply At.set') | (with_reducible apply At.far) | (with_reducible apply At.alloc) | (with_reducible apply At.drew) | (with_reducible apply At.drewN) | exact (rfl : Array.setIfInBounds _ _ _ = _) | (refine Ne.symm ?_; simp; done) | (show _ ≠ _; simp; done) | (show _ ≠ _; simp; omega) | (show _ ≠ _; omega))); (first | done | fail)), (by (repeat' (first | (with_reducible assumption) | (with_reducible refine unhid ?_; with_reducible assumption) | (with_reducible refine At.fresh _ _ _ (by first | (simp; done) | (simp; omega) | omega)) | (with_reducible apply At.set') | (with_reducible apply At.far) | (with_reducible apply At.alloc) | (with_reducible apply At.drew) | (with_reducible apply At.drewN) | exact (rfl : Array.setIfInBounds _ _ _ = _) | (refine Ne.symm ?_; simp; done) | (show _ ≠ _; simp; done) | (show _ ≠ _; simp; omega) | (show _ ≠ _; omega))); (first | done | fail)), (by (repeat' (first | (with_reducible assumption) | (with_reducible refine unhid ?_; with_reducible assumption) | (with_reducible refine At.fresh _ _ _ (by first | (simp; done) | (simp; omega) | omega)) | (with_reducible apply At.set') | (with_reducible apply At.far) | (with_reducible apply At.alloc) | (with_reducible apply At.drew) | (with_reducible apply At.drewN) | exact (rfl : Array.setIfInBounds _ _ _ = _) | (refine Ne.symm ?_; simp; done) | (show _ ≠ _; simp; done) | (show _ ≠ _; simp; omega) | (show _ ≠ _; omega))); (first | done | fail)), (by (repeat' (first | (with_reducible assumption) | (with_reducible refine unhid ?_; with_reducible assumption) | (with_reducible refine At.fresh _ _ _ (by first | (simp; done) | (simp; omega) | omega)) | (with_reducible apply At.set') | (with_reducible apply At.far) | (with_reducible apply At.alloc) | (with_reducible apply At.drew) | (with_reducible apply At.drewN) | exact (rfl : Array.setIfInBounds _ _ _ = _) | (refine Ne.symm ?_; simp; done) | (show _ ≠ _; simp; done) | (show _ ≠ _; simp; omega) | (show _ ≠ _; omega))); (first | done | fail))⟩).mono ?_); rintro r w5 ⟨rfl, hC, hO⟩; have h1 := hC.c_; have h2 := hC.h_; have h3 := hC.e_; have h1c := h1.cell; have h1f := h1.frozen; have h1l := h1.lt; have h2c := h2.cell; have h2f := h2.frozen; have h2l := h2.lt; have h3c := h3.cell; have h3f := h3.frozen; have h3l := h3.lt; have HO := Lib.hid (And.intro hC hO); clear hC hO h1 h2 h3)
  go_region
  go_wp2_with fail
  have HB5 := HO.out.2
  have hz5 := HB5.size
  have kc : At ((((w5.setCell ⟨w.heap.size + 1, 0, none⟩ (I sz)).setCell ⟨w.heap.size + 1 + 1, 0, none⟩ (I hg)).setCell ⟨w.heap.size + 1 + 1 + 1, 0, none⟩ (I er)).drew) (w.heap.size + 1) 3 #[I sz] := ((HO.out.1.c_.set' rfl).far (p := ⟨w.heap.size + 1 + 1, 0, none⟩) (by dsimp only; omega) _).far (p := ⟨w.heap.size + 1 + 1 + 1, 0, none⟩) (by dsimp only; omega) _
  have kh : At ((((w5.setCell ⟨w.heap.size + 1, 0, none⟩ (I sz)).setCell ⟨w.heap.size + 1 + 1, 0, none⟩ (I hg)).setCell ⟨w.heap.size + 1 + 1 + 1, 0, none⟩ (I er)).drew) (w.heap.size + 1 + 1) 3 #[I hg] := ((HO.out.1.h_.far (p := ⟨w.heap.size + 1, 0, none⟩) (by dsimp only; omega) _).set' rfl).far (p := ⟨w.heap.size + 1 + 1 + 1, 0, none⟩) (by dsimp only; omega) _
  have ke : At ((((w5.setCell ⟨w.heap.size + 1, 0, none⟩ (I sz)).setCell ⟨w.heap.size + 1 + 1, 0, none⟩ (I hg)).setCell ⟨w.heap.size + 1 + 1 + 1, 0, none⟩ (I er)).drew) (w.heap.size + 1 + 1 + 1) 47 #[I er] := ((HO.out.1.e_.far (p := ⟨w.heap.size + 1, 0, none⟩) (by dsimp only; omega) _).far (p := ⟨w.heap.size + 1 + 1, 0, none⟩) (by dsimp only; omega) _).set' rfl
  have hbF : Below w.heap.size w ((((w5.setCell ⟨w.heap.size + 1, 0, none⟩ (I sz)).setCell ⟨w.heap.size + 1 + 1, 0, none⟩ (I hg)).setCell ⟨w.heap.size + 1 + 1 + 1, 0, none⟩ (I er)).drew) := (by repeat (first | exact Below.refl _ _ | assumption | (refine Below.setCell ?_ (by first | (simp; done) | (simp; omega) | omega) _) | (refine Below.alloc ?_ (by first | (simp; done) | (simp; omega) | omega) _) | (refine Below.drew ?_) | (refine Below.drewN' ?_ _)))
  generalize ((((w5.setCell ⟨w.heap.size + 1, 0, none⟩ (I sz)).setCell ⟨w.heap.size + 1 + 1, 0, none⟩ (I hg)).setCell ⟨w.heap.size + 1 + 1 + 1, 0, none⟩ (I er)).drew) = wF at kc kh ke hbF ⊢
  have kcc := kc.cell
  have khc := kh.cell
  have kec := ke.cell
  exact bodyPost_ret (v := .tuple #[I (sz : Int), I (hg : Int), I er]) (by simp [results, Try.results123, go_sem, kcc, khc, kec]) rfl ⟨rfl, hbF⟩
end Go.Proofs.Ytnnjlpkjpbbklaa
