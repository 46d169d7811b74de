/-
  Sound returns true of a tree that stands. DomSound returns true. Conditions: the calls lie in memory.
-/
import Derived.Test.YtnnjlpkjpbbklaaLawB
set_option linter.unusedVariables false
set_option linter.unusedSimpArgs false
namespace Go.Proofs.Ytnnjlpkjpbbklaa
open Go.RowKit

/-- How many nodes there are among the first numbers. -/
def DT.upto (T : DT) (i : Nat) : Nat := (T.nodes.take i).countP Option.isSome
theorem DT.upto_zero (T : DT) : T.upto 0 = 0 := rfl
theorem DT.upto_all (T : DT) {i : Nat} (h : T.nodes.length ≤ i) : T.upto i = T.count := by unfold DT.upto DT.count; rw [List.take_of_length_le h]
theorem DT.upto_le (T : DT) (i : Nat) : T.upto i ≤ T.count := by
  have h : T.nodes.countP Option.isSome = (T.nodes.take i).countP Option.isSome + (T.nodes.drop i).countP Option.isSome := by rw [← List.countP_append, List.take_append_drop]
  unfold DT.upto DT.count
  omega
theorem DT.upto_succ (T : DT) {i : Nat} (h : i < T.nodes.length) : T.upto (i + 1) = T.upto i + if (T.at_ i).isSome then 1 else 0 := by
  unfold DT.upto DT.at_
  rw [← List.take_append_getElem h, List.countP_append, List.getElem?_eq_getElem h]
  simp [List.countP_cons]

set_option maxRecDepth 100000 in
set_option maxHeartbeats 8000000 in
theorem sound_any {tb : Nat} {S0 : Nat → Prop} {w0 w : World} {T : DT} (hs : Sat tb S0 w0 T w) : Calls Try.prog 52 #[.pointer (some ⟨tb, 0, none⟩)] w (Ret (.bool true) w) := by
  have hW := hs.wf
  have htl := hs.lt
  have hnl : T.nodes.length ≤ 2000 := hW.nodes_le
  have hcl : T.count ≤ 2000 := Nat.le_trans List.countP_le_length hnl
  have hd2 := hW.dep2
  have hcc := hW.count_cap
  obtain ⟨z1, z2, z3⟩ := hW.has0
  have HRoom : Hid (∀ W, Below w.heap.size w W → Calls Try.prog 60 #[.pointer (some ⟨tb, 0, none⟩)] W (Ret (.tuple #[I T.cap, I T.dep]) W)) := fun W hb => (hs.keep hb).room
  have HCnt : Hid (∀ W, Below w.heap.size w W → Calls Try.prog 34 #[.pointer (some ⟨tb, 0, none⟩)] W fun e w' => e = .returned (I (T.count : Int)) ∧ W = w') := fun W hb => (hs.keep hb).count
  have H0a : Hid (∀ W, Below w.heap.size w W → Calls Try.prog 42 #[.pointer (some ⟨tb, 0, none⟩), I 0] W fun e w' => e = .returned (.bool true) ∧ W = w') := fun W hb => by
    have := (hs.keep hb).has 0; rwa [z1] at this
  have H0b : Hid (∀ W, Below w.heap.size w W → Calls Try.prog 49 #[.pointer (some ⟨tb, 0, none⟩), I 0] W fun e w' => e = .returned (I (-1)) ∧ W = w') := fun W hb => by
    have := (hs.keep hb).parent 0; rwa [z2] at this
  have H0c : Hid (∀ W, Below w.heap.size w W → Calls Try.prog 61 #[.pointer (some ⟨tb, 0, none⟩), I 0] W fun e w' => e = .returned (I 1) ∧ W = w') := fun W hb => by
    have := (hs.keep hb).tag 0; rwa [z3] at this
  have HS := Lib.hid hs
  have HW := Lib.hid hW
  clear hs hW z1 z2 z3
  generalize hcd : T.cap = tc at *
  generalize hdd : T.dep = td at *
  have Hcd := Lib.hid (And.intro hcd hdd)
  clear hcd hdd
  obtain ⟨C, hC⟩ : ∃ C, C = T.count := ⟨_, rfl⟩
  rw [← hC] at hcl hcc HCnt
  have HC := Lib.hid hC
  clear hC
  go_enter Try.func52, Try.ntmps52
  go_wp2_with (((with_reducible refine (HRoom.out _ (by repeat (first | exact Below.refl _ _ | assumption | (refine Below.setCell ?_ (by first | (simp; done) | (simp; omega) | omega) _) | (refine Below.alloc ?_ (by first | (simp; done) | (simp; omega) | omega) _) | (refine Below.drew ?_) | (refine Below.drewN' ?_ _)))).mono ?_); rintro e w1 ⟨rfl, hb⟩; have hz_w1 := hb.size; (try simp only [World.size_alloc, World.size_setCell, World.size_drew, size_drewN'] at hz_w1); have hb_w1 : Below w.heap.size w w1 := Below.trans (by exact (by repeat (first | exact Below.refl _ _ | assumption | (refine Below.setCell ?_ (by first | (simp; done) | (simp; omega) | omega) _) | (refine Below.alloc ?_ (by first | (simp; done) | (simp; omega) | omega) _) | (refine Below.drew ?_) | (refine Below.drewN' ?_ _)))) (hb.mono (by first | (simp; done) | (simp; omega) | omega)); obtain ⟨hc_w1, hf_w1⟩ := bcell hb_w1; clear hb))
  go_loopw [5, 6] (fun s5 s6 wr => ∃ (i U : Nat), i ≤ T.nodes.length ∧ s6 = .int .i64 (i : Int) ∧ s5 = .int .i64 (U : Int) ∧ Hid (U = T.upto i) ∧ Hid (Below w.heap.size w wr)) (fun _ s6 _ => T.nodes.length - (intOf s6).toNat)
  case atStart => exact ⟨0, 0, Nat.zero_le _, rfl, rfl, T.upto_zero.symm, (by repeat (first | exact Below.refl _ _ | assumption | (refine Below.setCell ?_ (by first | (simp; done) | (simp; omega) | omega) _) | (refine Below.alloc ?_ (by first | (simp; done) | (simp; omega) | omega) _) | (refine Below.drew ?_) | (refine Below.drewN' ?_ _)))⟩
  case round =>
    obtain ⟨i, U, hi, rfl, rfl, hU, hbr⟩ := hrel
    have hbr1 := hbr.out
    have hzr := hbr1.size
    have hUC : U ≤ C := by have := hU.out; have := HC.out; have := T.upto_le i; omega
    by_cases hlt : U < C
    · have hiN : i < T.nodes.length := by
        rcases Nat.lt_or_ge i T.nodes.length with h | h
        · exact h
        · have := T.upto_all h; have := hU.out; have := HC.out; omega
      have hu := T.upto_succ hiN
      have hlt1 : (U : Int) < (C : Int) := by omega
      cases hn : T.at_ i with
      | none =>
        rw [hn] at hu
        simp only [Option.isSome_none, Bool.false_eq_true, if_false, Nat.add_zero] at hu
        have hU1 : Hid (U = T.upto (i + 1)) := by rw [hu]; exact hU.out
        have H1 : Hid (∀ W, Below w.heap.size w W → Calls Try.prog 42 #[.pointer (some ⟨tb, 0, none⟩), I (i : Int)] W fun e w' => e = .returned (.bool false) ∧ W = w') := fun W hb => by
          have := (HS.out.keep hb).has (i : Int); rwa [DT.has_nat, hn] at this
        clear hu hn
        as_aux_lemma =>
        go_wp2_with (first | ((with_reducible refine (HCnt.out _ (by repeat (first | exact Below.refl _ _ | assumption | (refine Below.setCell ?_ (by first | (simp; done) | (simp; omega) | omega) _) | (refine Below.alloc ?_ (by first | (simp; done) | (simp; omega) | omega) _) | (refine Below.drew ?_) | (refine Below.drewN' ?_ _)))).mono ?_); rintro e w' ⟨rfl, rfl⟩) | ((with_reducible refine (H1.out _ (by repeat (first | exact Below.refl _ _ | assumption | (refine Below.setCell ?_ (by first | (simp; done) | (simp; omega) | omega) _) | (refine Below.alloc ?_ (by first | (simp; done) | (simp; omega) | omega) _) | (refine Below.drew ?_) | (refine Below.drewN' ?_ _)))).mono ?_); rintro e w' ⟨rfl, rfl⟩))
        exact ⟨⟨i + 1, U, by omega, by go_num, rfl, hU1, hbr⟩, by simp [intOf]; omega⟩
      | some n =>
        rw [hn] at hu
        simp only [Option.isSome_some, if_true] at hu
        have hU1 : Hid (U + 1 = T.upto (i + 1)) := (show U + 1 = T.upto (i + 1) by rw [hu, ← hU.out])
        obtain ⟨p1, p2, p3, p4, p5⟩ := HW.out.node_told hn
        rw [Hcd.out.2] at p3
        have p0 : 0 ≤ T.depth (i : Int) := by rw [DT.depth_nat hn]; omega
        have H1 : Hid (∀ W, Below w.heap.size w W → Calls Try.prog 42 #[.pointer (some ⟨tb, 0, none⟩), I (i : Int)] W fun e w' => e = .returned (.bool true) ∧ W = w') := fun W hb => by
          have := (HS.out.keep hb).has (i : Int); rwa [DT.has_some hn] at this
        have H2 : Hid (∀ W, Below w.heap.size w W → Calls Try.prog 64 #[.pointer (some ⟨tb, 0, none⟩), I (i : Int)] W (RetRow 3 1 n.kids.length (kidCells n.kids) W)) := fun W hb => by
          have := (HS.out.keep hb).kids (i : Int); rwa [DT.kidsOf_nat hn] at this
        have H3 : Hid (∀ W, Below w.heap.size w W → Calls Try.prog 49 #[.pointer (some ⟨tb, 0, none⟩), I (i : Int)] W fun e w' => e = .returned (I (T.upOf (i : Int))) ∧ W = w') := fun W hb => (HS.out.keep hb).parent (i : Int)
        have H4 : Hid (∀ W, Below w.heap.size w W → Calls Try.prog 51 #[.pointer (some ⟨tb, 0, none⟩), I (i : Int)] W fun e w' => e = .returned (I (T.depth (i : Int))) ∧ W = w') := fun W hb => (HS.out.keep hb).depth (i : Int)
        have H5 : Hid (∀ W, Below w.heap.size w W → Calls Try.prog 65 #[.pointer (some ⟨tb, 0, none⟩), I (i : Int)] W fun e w' => e = .returned (I (T.height (i : Int))) ∧ W = w') := fun W hb => (HS.out.keep hb).height (i : Int)
        have H6 : Hid (∀ W, Below w.heap.size w W → Calls Try.prog 43 #[.pointer (some ⟨tb, 0, none⟩), I (i : Int)] W fun e w' => e = .returned (.bool (T.live (i : Int))) ∧ W = w') := fun W hb => (HS.out.keep hb).live (i : Int)
        have H7 : Hid (∀ W, Below w.heap.size w W → Calls Try.prog 50 #[.pointer (some ⟨tb, 0, none⟩), I (i : Int)] W fun e w' => e = .returned (I (T.indexOf (i : Int))) ∧ W = w') := fun W hb => (HS.out.keep hb).index (i : Int)
        have H8 : Hid (∀ W, Below w.heap.size w W → Calls Try.prog 61 #[.pointer (some ⟨tb, 0, none⟩), I (i : Int)] W fun e w' => e = .returned (I (T.tagOf (i : Int))) ∧ W = w') := fun W hb => (HS.out.keep hb).tag (i : Int)
        have Q1 : Hid (∀ W, Below w.heap.size w W → Calls Try.prog 42 #[.pointer (some ⟨tb, 0, none⟩), I (T.upOf (i : Int))] W fun e w' => e = .returned (.bool (T.has (T.upOf (i : Int)))) ∧ W = w') := fun W hb => (HS.out.keep hb).has _
        have Q2 : Hid (∀ W, Below w.heap.size w W → Calls Try.prog 61 #[.pointer (some ⟨tb, 0, none⟩), I (T.upOf (i : Int))] W fun e w' => e = .returned (I (T.tagOf (T.upOf (i : Int)))) ∧ W = w') := fun W hb => (HS.out.keep hb).tag _
        have Q3 : Hid (∀ W, Below w.heap.size w W → Calls Try.prog 43 #[.pointer (some ⟨tb, 0, none⟩), I (T.upOf (i : Int))] W fun e w' => e = .returned (.bool (T.live (T.upOf (i : Int)))) ∧ W = w') := fun W hb => (HS.out.keep hb).live _
        have HT : Hid (∀ q (hq : q < n.kids.length), ∃ hk : Int, hk < T.height (i : Int) ∧ ∀ W, Below w.heap.size w W →
            (Calls Try.prog 42 #[.pointer (some ⟨tb, 0, none⟩), I (n.kids[q] : Int)] W fun e w' => e = .returned (.bool true) ∧ W = w') ∧
            (Calls Try.prog 49 #[.pointer (some ⟨tb, 0, none⟩), I (n.kids[q] : Int)] W fun e w' => e = .returned (I (i : Int)) ∧ W = w') ∧
            (Calls Try.prog 50 #[.pointer (some ⟨tb, 0, none⟩), I (n.kids[q] : Int)] W fun e w' => e = .returned (I (q : Int)) ∧ W = w') ∧
            (Calls Try.prog 51 #[.pointer (some ⟨tb, 0, none⟩), I (n.kids[q] : Int)] W fun e w' => e = .returned (I (T.depth (i : Int) + 1)) ∧ W = w') ∧
            (Calls Try.prog 65 #[.pointer (some ⟨tb, 0, none⟩), I (n.kids[q] : Int)] W fun e w' => e = .returned (I hk) ∧ W = w') ∧
            (Calls Try.prog 43 #[.pointer (some ⟨tb, 0, none⟩), I (n.kids[q] : Int)] W fun e w' => e = .returned (.bool (T.live (i : Int))) ∧ W = w')) := by
          intro q hq
          obtain ⟨k1, k2, k3, k4, k5, k6⟩ := HW.out.kid_told hn q hq
          refine ⟨_, k5, fun W hb => ⟨?_, ?_, ?_, ?_, (HS.out.keep hb).height _, ?_⟩⟩
          · have := (HS.out.keep hb).has (n.kids[q] : Int); rwa [k1] at this
          · have := (HS.out.keep hb).parent (n.kids[q] : Int); rwa [k2] at this
          · have := (HS.out.keep hb).index (n.kids[q] : Int); rwa [k3] at this
          · have := (HS.out.keep hb).depth (n.kids[q] : Int); rwa [k4] at this
          · have := (HS.out.keep hb).live (n.kids[q] : Int); rwa [k6] at this
        obtain ⟨m, hm⟩ : ∃ m, m = n.kids.length := ⟨_, rfl⟩
        rw [← hm] at H2
        have hkl : n.kids.length ≤ 2000 := Nat.le_trans (kids_len HW.out hn) hnl
        have hm2 : m ≤ 2000 := by omega
        have HM := Lib.hid hm
        have hp5 : T.tagOf (i : Int) = 0 → m = 0 := fun h => by rw [hm, p5 h]; rfl
        clear hu hm hkl p5 hn
        generalize T.depth (i : Int) = dd at *
        generalize T.height (i : Int) = hh at *
        generalize T.live (i : Int) = lv at *
        generalize T.indexOf (i : Int) = ix at *
        generalize T.tagOf (i : Int) = tg at *
        generalize T.upOf (i : Int) = up at *
        generalize T.has up = uh at *
        generalize T.tagOf up = ut at *
        generalize T.live up = ul at *
        go_wp2_with (first | ((with_reducible refine (HCnt.out _ (by repeat (first | exact Below.refl _ _ | assumption | (refine Below.setCell ?_ (by first | (simp; done) | (simp; omega) | omega) _) | (refine Below.alloc ?_ (by first | (simp; done) | (simp; omega) | omega) _) | (refine Below.drew ?_) | (refine Below.drewN' ?_ _)))).mono ?_); rintro e w' ⟨rfl, rfl⟩) | ((with_reducible refine (H1.out _ (by repeat (first | exact Below.refl _ _ | assumption | (refine Below.setCell ?_ (by first | (simp; done) | (simp; omega) | omega) _) | (refine Below.alloc ?_ (by first | (simp; done) | (simp; omega) | omega) _) | (refine Below.drew ?_) | (refine Below.drewN' ?_ _)))).mono ?_); rintro e w' ⟨rfl, rfl⟩) | ((with_reducible refine (H2.out _ (by repeat (first | exact Below.refl _ _ | assumption | (refine Below.setCell ?_ (by first | (simp; done) | (simp; omega) | omega) _) | (refine Below.alloc ?_ (by first | (simp; done) | (simp; omega) | omega) _) | (refine Below.drew ?_) | (refine Below.drewN' ?_ _)))).mono ?_); rintro e w2 ⟨v_w2, rfl, hown, hb⟩; obtain ⟨A_w2, c_w2, rfl⟩ := own_form hown; have HO_w2 := Lib.hid hown; clear hown; have HBb_w2 := Lib.hid hb; have hz_w2 := hb.size; (try simp only [World.size_alloc, World.size_setCell, World.size_drew, size_drewN'] at hz_w2); have hb_w2 : Below w.heap.size w w2 := Below.trans (by exact (by repeat (first | exact Below.refl _ _ | assumption | (refine Below.setCell ?_ (by first | (simp; done) | (simp; omega) | omega) _) | (refine Below.alloc ?_ (by first | (simp; done) | (simp; omega) | omega) _) | (refine Below.drew ?_) | (refine Below.drewN' ?_ _)))) (hb.mono (by first | (simp; done) | (simp; omega) | omega)); obtain ⟨hc_w2, hf_w2⟩ := bcell hb_w2; clear hb))
        have HRow := Lib.hid (own_rowQ HO_w2.out (by omega))
        obtain ⟨Wo, hWo⟩ : ∃ Wo, Wo = wr := ⟨_, rfl⟩
        go_loopw [8] (fun s8 wr => ∃ q : Nat, q ≤ m ∧ s8 = .int .i64 (q : Int) ∧ Hid (Below w2.heap.size w2 wr)) (fun s8 _ => m - (intOf s8).toNat)
        case atStart => exact ⟨0, Nat.zero_le _, rfl, Below.refl _ _⟩
        case round =>
          obtain ⟨q, hq, rfl, hb2⟩ := hrel
          have hb2' := hb2.out
          have hz2 := hb2'.size
          have hz_w2' := hb_w2.size
          have hbw : Below w.heap.size w wr := hb_w2.trans (hb2'.mono hz_w2')
          by_cases hqm : q < m
          · have hql : q < n.kids.length := by have := HM.out; omega
            obtain ⟨b, off, cap, hv, _, _, hRb, hcell⟩ := HRow.out.open_ (by omega)
            injection hv with e1 e2 e3
            subst e1
            have hcq : wr.cell? ⟨b, off + q, none⟩ = some (I (n.kids[q] : Int)) := (World.cell?_of_block (hb2'.block b hRb.2)).trans (hcell q _ (kidCells_get _ _ hql))
            obtain ⟨hk, hklt, hc⟩ := HT.out q hql
            have C1 := Lib.hid (fun W hb => (hc W hb).1)
            have C2 := Lib.hid (fun W hb => (hc W hb).2.1)
            have C3 := Lib.hid (fun W hb => (hc W hb).2.2.1)
            have C4 := Lib.hid (fun W hb => (hc W hb).2.2.2.1)
            have C5 := Lib.hid (fun W hb => (hc W hb).2.2.2.2.1)
            have C6 := Lib.hid (fun W hb => (hc W hb).2.2.2.2.2)
            have hdec : decide (hh ≤ hk) = false := by simp; omega
            have HB2 := Lib.hid hb2'
            clear hc hcell hRb hb2 hb2' e2 e3 p1 p2 p4 hp5
            generalize n.kids[q] = K at *
            cases lv
            all_goals
             as_aux_lemma =>
              go_wp2_with fail
              go_quiet (first | (with_reducible refine quiet_eq (C1.out _ ?_); exact (by repeat (first | exact Below.refl _ _ | assumption | (refine Below.setCell ?_ (by first | (simp; done) | (simp; omega) | omega) _) | (refine Below.alloc ?_ (by first | (simp; done) | (simp; omega) | omega) _) | (refine Below.drew ?_) | (refine Below.drewN' ?_ _)))) | (with_reducible refine quiet_eq (C2.out _ ?_); exact (by repeat (first | exact Below.refl _ _ | assumption | (refine Below.setCell ?_ (by first | (simp; done) | (simp; omega) | omega) _) | (refine Below.alloc ?_ (by first | (simp; done) | (simp; omega) | omega) _) | (refine Below.drew ?_) | (refine Below.drewN' ?_ _)))) | (with_reducible refine quiet_eq (C3.out _ ?_); exact (by repeat (first | exact Below.refl _ _ | assumption | (refine Below.setCell ?_ (by first | (simp; done) | (simp; omega) | omega) _) | (refine Below.alloc ?_ (by first | (simp; done) | (simp; omega) | omega) _) | (refine Below.drew ?_) | (refine Below.drewN' ?_ _)))) | (with_reducible refine quiet_eq (C4.out _ ?_); exact (by repeat (first | exact Below.refl _ _ | assumption | (refine Below.setCell ?_ (by first | (simp; done) | (simp; omega) | omega) _) | (refine Below.alloc ?_ (by first | (simp; done) | (simp; omega) | omega) _) | (refine Below.drew ?_) | (refine Below.drewN' ?_ _)))) | (with_reducible refine quiet_eq (C5.out _ ?_); exact (by repeat (first | exact Below.refl _ _ | assumption | (refine Below.setCell ?_ (by first | (simp; done) | (simp; omega) | omega) _) | (refine Below.alloc ?_ (by first | (simp; done) | (simp; omega) | omega) _) | (refine Below.drew ?_) | (refine Below.drewN' ?_ _)))) | (with_reducible refine quiet_eq (C6.out _ ?_); exact (by repeat (first | exact Below.refl _ _ | assumption | (refine Below.setCell ?_ (by first | (simp; done) | (simp; omega) | omega) _) | (refine Below.alloc ?_ (by first | (simp; done) | (simp; omega) | omega) _) | (refine Below.drew ?_) | (refine Below.drewN' ?_ _)))) | (with_reducible refine quiet_eq (H4.out _ ?_); exact (by repeat (first | exact Below.refl _ _ | assumption | (refine Below.setCell ?_ (by first | (simp; done) | (simp; omega) | omega) _) | (refine Below.alloc ?_ (by first | (simp; done) | (simp; omega) | omega) _) | (refine Below.drew ?_) | (refine Below.drewN' ?_ _)))) | (with_reducible refine quiet_eq (H5.out _ ?_); exact (by repeat (first | exact Below.refl _ _ | assumption | (refine Below.setCell ?_ (by first | (simp; done) | (simp; omega) | omega) _) | (refine Below.alloc ?_ (by first | (simp; done) | (simp; omega) | omega) _) | (refine Below.drew ?_) | (refine Below.drewN' ?_ _)))) | (with_reducible refine quiet_eq (H6.out _ ?_); exact (by repeat (first | exact Below.refl _ _ | assumption | (refine Below.setCell ?_ (by first | (simp; done) | (simp; omega) | omega) _) | (refine Below.alloc ?_ (by first | (simp; done) | (simp; omega) | omega) _) | (refine Below.drew ?_) | (refine Below.drewN' ?_ _)))))
              go_wp2_with fail
              exact ⟨⟨q + 1, by omega, by go_num, HB2.out.trans (by repeat (first | exact Below.refl _ _ | assumption | (refine Below.setCell ?_ (by first | (simp; done) | (simp; omega) | omega) _) | (refine Below.alloc ?_ (by first | (simp; done) | (simp; omega) | omega) _) | (refine Below.drew ?_) | (refine Below.drewN' ?_ _)))⟩, by simp [intOf]; omega⟩
          · have hqe : q = m := by omega
            subst hqe
            have g1 : decide (td < dd) = false := by simp; omega
            have hii0 : 0 ≤ (i : Int) ∧ (i : Int) ≤ 2000 := by omega
            have HU1 := Lib.hid (show ((U : Int) + 1 = ((U + 1 : Nat) : Int)) ∧ ((i : Int) + 1 = ((i + 1 : Nat) : Int)) by omega)
            clear hb2 hb2' hWo
            generalize hii : (i : Int) = ii at *
            have Hii := Lib.hid hii
            clear hii
            obtain ⟨hi1, hi2⟩ := hii0
            by_cases hup : 0 ≤ up
            · obtain ⟨rfl, hix, hut⟩ := p2 hup
              have f1 : decide (up < 0) = false := by simp; omega
              have f2 : decide (0 ≤ up) = true := by simp; omega
              have f3 : decide (ix < 0) = false := by simp; omega
              have f4 : (ut == 0) = false := by simpa using hut
              have f5 : decide (ut = 0) = false := by simpa using hut
              clear p1 p2 hut
              cases hz : (ii == 0) <;> cases ht : (tg == 0)
              all_goals
                have hz' : decide (ii = 0) = _ := hz
                rw [hz', f2] at p4
                simp only [Bool.true_or, Bool.false_or, Bool.true_and, Bool.false_and] at p4
                have g2 : (tg == 0) = true → decide ((0 : Int) < (q : Int)) = false ∧ decide (0 < q) = false := fun h => by have := hp5 (by simpa using h); constructor <;> simp <;> omega
                rw [ht] at g2
                first | (obtain ⟨g3, g4⟩ := g2 rfl) | skip
                clear g2 hp5
                subst p4
                first | cases ul | skip
                all_goals
                 as_aux_lemma =>
                  go_wp2_with (first | ((with_reducible refine (H3.out _ (by repeat (first | exact Below.refl _ _ | assumption | (refine Below.setCell ?_ (by first | (simp; done) | (simp; omega) | omega) _) | (refine Below.alloc ?_ (by first | (simp; done) | (simp; omega) | omega) _) | (refine Below.drew ?_) | (refine Below.drewN' ?_ _)))).mono ?_); rintro e w' ⟨rfl, rfl⟩) | ((with_reducible refine (H4.out _ (by repeat (first | exact Below.refl _ _ | assumption | (refine Below.setCell ?_ (by first | (simp; done) | (simp; omega) | omega) _) | (refine Below.alloc ?_ (by first | (simp; done) | (simp; omega) | omega) _) | (refine Below.drew ?_) | (refine Below.drewN' ?_ _)))).mono ?_); rintro e w' ⟨rfl, rfl⟩) | ((with_reducible refine (Q1.out _ (by repeat (first | exact Below.refl _ _ | assumption | (refine Below.setCell ?_ (by first | (simp; done) | (simp; omega) | omega) _) | (refine Below.alloc ?_ (by first | (simp; done) | (simp; omega) | omega) _) | (refine Below.drew ?_) | (refine Below.drewN' ?_ _)))).mono ?_); rintro e w' ⟨rfl, rfl⟩) | ((with_reducible refine (H7.out _ (by repeat (first | exact Below.refl _ _ | assumption | (refine Below.setCell ?_ (by first | (simp; done) | (simp; omega) | omega) _) | (refine Below.alloc ?_ (by first | (simp; done) | (simp; omega) | omega) _) | (refine Below.drew ?_) | (refine Below.drewN' ?_ _)))).mono ?_); rintro e w' ⟨rfl, rfl⟩) | ((with_reducible refine (Q2.out _ (by repeat (first | exact Below.refl _ _ | assumption | (refine Below.setCell ?_ (by first | (simp; done) | (simp; omega) | omega) _) | (refine Below.alloc ?_ (by first | (simp; done) | (simp; omega) | omega) _) | (refine Below.drew ?_) | (refine Below.drewN' ?_ _)))).mono ?_); rintro e w' ⟨rfl, rfl⟩) | ((with_reducible refine (H6.out _ (by repeat (first | exact Below.refl _ _ | assumption | (refine Below.setCell ?_ (by first | (simp; done) | (simp; omega) | omega) _) | (refine Below.alloc ?_ (by first | (simp; done) | (simp; omega) | omega) _) | (refine Below.drew ?_) | (refine Below.drewN' ?_ _)))).mono ?_); rintro e w' ⟨rfl, rfl⟩) | ((with_reducible refine (Q3.out _ (by repeat (first | exact Below.refl _ _ | assumption | (refine Below.setCell ?_ (by first | (simp; done) | (simp; omega) | omega) _) | (refine Below.alloc ?_ (by first | (simp; done) | (simp; omega) | omega) _) | (refine Below.drew ?_) | (refine Below.drewN' ?_ _)))).mono ?_); rintro e w' ⟨rfl, rfl⟩) | ((with_reducible refine (H8.out _ (by repeat (first | exact Below.refl _ _ | assumption | (refine Below.setCell ?_ (by first | (simp; done) | (simp; omega) | omega) _) | (refine Below.alloc ?_ (by first | (simp; done) | (simp; omega) | omega) _) | (refine Below.drew ?_) | (refine Below.drewN' ?_ _)))).mono ?_); rintro e w' ⟨rfl, rfl⟩))
                  exact ⟨⟨i + 1, U + 1, by omega, by rw [← HU1.out.2], by rw [← HU1.out.1], hU1, hbw⟩, by have := Hii.out; simp [intOf]; omega⟩
            · have f1 : decide (up < 0) = true := by simp; omega
              have f2 : decide (0 ≤ up) = false := by simp; omega
              obtain rfl := p1 (by omega)
              clear p1 p2
              cases hz : (ii == 0) <;> cases ht : (tg == 0)
              all_goals
                have hz' : decide (ii = 0) = _ := hz
                rw [hz', f2] at p4
                simp only [Bool.true_or, Bool.false_or, Bool.true_and, Bool.false_and] at p4
                have g2 : (tg == 0) = true → decide ((0 : Int) < (q : Int)) = false ∧ decide (0 < q) = false := fun h => by have := hp5 (by simpa using h); constructor <;> simp <;> omega
                rw [ht] at g2
                first | (obtain ⟨g3, g4⟩ := g2 rfl) | skip
                clear g2 hp5
                subst p4
                first | cases ul | skip
                all_goals
                 as_aux_lemma =>
                  go_wp2_with (first | ((with_reducible refine (H3.out _ (by repeat (first | exact Below.refl _ _ | assumption | (refine Below.setCell ?_ (by first | (simp; done) | (simp; omega) | omega) _) | (refine Below.alloc ?_ (by first | (simp; done) | (simp; omega) | omega) _) | (refine Below.drew ?_) | (refine Below.drewN' ?_ _)))).mono ?_); rintro e w' ⟨rfl, rfl⟩) | ((with_reducible refine (H4.out _ (by repeat (first | exact Below.refl _ _ | assumption | (refine Below.setCell ?_ (by first | (simp; done) | (simp; omega) | omega) _) | (refine Below.alloc ?_ (by first | (simp; done) | (simp; omega) | omega) _) | (refine Below.drew ?_) | (refine Below.drewN' ?_ _)))).mono ?_); rintro e w' ⟨rfl, rfl⟩) | ((with_reducible refine (Q1.out _ (by repeat (first | exact Below.refl _ _ | assumption | (refine Below.setCell ?_ (by first | (simp; done) | (simp; omega) | omega) _) | (refine Below.alloc ?_ (by first | (simp; done) | (simp; omega) | omega) _) | (refine Below.drew ?_) | (refine Below.drewN' ?_ _)))).mono ?_); rintro e w' ⟨rfl, rfl⟩) | ((with_reducible refine (H7.out _ (by repeat (first | exact Below.refl _ _ | assumption | (refine Below.setCell ?_ (by first | (simp; done) | (simp; omega) | omega) _) | (refine Below.alloc ?_ (by first | (simp; done) | (simp; omega) | omega) _) | (refine Below.drew ?_) | (refine Below.drewN' ?_ _)))).mono ?_); rintro e w' ⟨rfl, rfl⟩) | ((with_reducible refine (Q2.out _ (by repeat (first | exact Below.refl _ _ | assumption | (refine Below.setCell ?_ (by first | (simp; done) | (simp; omega) | omega) _) | (refine Below.alloc ?_ (by first | (simp; done) | (simp; omega) | omega) _) | (refine Below.drew ?_) | (refine Below.drewN' ?_ _)))).mono ?_); rintro e w' ⟨rfl, rfl⟩) | ((with_reducible refine (H6.out _ (by repeat (first | exact Below.refl _ _ | assumption | (refine Below.setCell ?_ (by first | (simp; done) | (simp; omega) | omega) _) | (refine Below.alloc ?_ (by first | (simp; done) | (simp; omega) | omega) _) | (refine Below.drew ?_) | (refine Below.drewN' ?_ _)))).mono ?_); rintro e w' ⟨rfl, rfl⟩) | ((with_reducible refine (Q3.out _ (by repeat (first | exact Below.refl _ _ | assumption | (refine Below.setCell ?_ (by first | (simp; done) | (simp; omega) | omega) _) | (refine Below.alloc ?_ (by first | (simp; done) | (simp; omega) | omega) _) | (refine Below.drew ?_) | (refine Below.drewN' ?_ _)))).mono ?_); rintro e w' ⟨rfl, rfl⟩) | ((with_reducible refine (H8.out _ (by repeat (first | exact Below.refl _ _ | assumption | (refine Below.setCell ?_ (by first | (simp; done) | (simp; omega) | omega) _) | (refine Below.alloc ?_ (by first | (simp; done) | (simp; omega) | omega) _) | (refine Below.drew ?_) | (refine Below.drewN' ?_ _)))).mono ?_); rintro e w' ⟨rfl, rfl⟩))
                  exact ⟨⟨i + 1, U + 1, by omega, by rw [← HU1.out.2], by rw [← HU1.out.1], hU1, hbw⟩, by have := Hii.out; simp [intOf]; omega⟩
    · have hUe : U = C := by omega
      subst hUe
      go_wp2_with (first | ((with_reducible refine (HCnt.out _ (by repeat (first | exact Below.refl _ _ | assumption | (refine Below.setCell ?_ (by first | (simp; done) | (simp; omega) | omega) _) | (refine Below.alloc ?_ (by first | (simp; done) | (simp; omega) | omega) _) | (refine Below.drew ?_) | (refine Below.drewN' ?_ _)))).mono ?_); rintro e w' ⟨rfl, rfl⟩) | ((with_reducible refine (H0a.out _ (by repeat (first | exact Below.refl _ _ | assumption | (refine Below.setCell ?_ (by first | (simp; done) | (simp; omega) | omega) _) | (refine Below.alloc ?_ (by first | (simp; done) | (simp; omega) | omega) _) | (refine Below.drew ?_) | (refine Below.drewN' ?_ _)))).mono ?_); rintro e w' ⟨rfl, rfl⟩) | ((with_reducible refine (H0b.out _ (by repeat (first | exact Below.refl _ _ | assumption | (refine Below.setCell ?_ (by first | (simp; done) | (simp; omega) | omega) _) | (refine Below.alloc ?_ (by first | (simp; done) | (simp; omega) | omega) _) | (refine Below.drew ?_) | (refine Below.drewN' ?_ _)))).mono ?_); rintro e w' ⟨rfl, rfl⟩) | ((with_reducible refine (H0c.out _ (by repeat (first | exact Below.refl _ _ | assumption | (refine Below.setCell ?_ (by first | (simp; done) | (simp; omega) | omega) _) | (refine Below.alloc ?_ (by first | (simp; done) | (simp; omega) | omega) _) | (refine Below.drew ?_) | (refine Below.drewN' ?_ _)))).mono ?_); rintro e w' ⟨rfl, rfl⟩))
      go_ret
      exact ⟨rfl, hbr1⟩
end Go.Proofs.Ytnnjlpkjpbbklaa
