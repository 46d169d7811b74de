/-
  Graft of package dom. Conditions: the tree lies in memory and is sound; the plain tree is not very large.
-/
import Derived.Test.YtnnjlpkjpbbklaaDomPut
set_option linter.unusedVariables false
set_option linter.unusedSimpArgs false
namespace Go.Proofs.Ytnnjlpkjpbbklaa
open Go.RowKit

section
variable {w : World} {tb : Nat} {T : DT} {nv : Value} {G : List (Option NG)}

set_option maxRecDepth 100000 in
set_option maxHeartbeats 4000000 in
theorem graft_any (h : Rep w tb T nv G) {S : Nat → Prop} (hS : ∀ b ∈ repBlocks tb nv G, S b) (hW : T.WF) (parent pos : Int) {V : VN} {R : Nat → Prop} (hP : PV w R V) (hR : ∀ b, R b → b < w.heap.size ∧ b ∉ repBlocks tb nv G) (hs : V.node.small) (hz : V.node.size ≤ 100000) :
    Calls Try.prog 46 #[.pointer (some ⟨tb, 0, none⟩), I parent, I pos, V.agg] w fun e w' => e = .returned (.tuple #[I (T.graft anew parent pos V.node).1.1, I (T.graft anew parent pos V.node).1.2]) ∧ Mut tb (T.graft anew parent pos V.node).2 S w w' := by
  have hl := hW.nodes_le
  have HM0 := Lib.hid (fun (W : World) (hW : Below w.heap.size w W) => Mut.of_below h hS hW)
  obtain ⟨pp, hpp, HGP⟩ := get_ptr h hl parent
  have HGP := Lib.hid HGP
  have hdep1 := hW.dep1
  have hdep2 := hW.dep2
  have hcap1 := hW.cap1
  have hcap2 := hW.cap2
  have hhi := PNode.high_size V.node
  have HMe := Lib.hid (fun (W : World) (hb : Below w.heap.size w W) => measure_any (hP.keepB hb fun b hb1 => (hR b hb1).1) (fun b hb1 => Nat.lt_of_lt_of_le (hR b hb1).1 hb.size) hs hz)
  have HRo := Lib.hid (fun (W : World) (hb : Below w.heap.size w W) => room1_any (h.keep hb) (V.node.size : Int) (by omega) hl)
  have HD := Lib.hid (fun (W : World) (hb : Below w.heap.size w W) => depth_any (h.keep hb) hW parent)
  have hspec := hW.graft_spec (f := anew) parent pos V.node
  have herr := PNode.err_zero V.node
  have hblk := h.lt
  have hput : Hid (∀ (W : World) (tc pc : Nat), Below w.heap.size w W → At W tc 36 #[.pointer (some ⟨tb, 0, none⟩)] → At W pc 62 #[.func (.func 125) #[] #[.pointer (some ⟨tc, 0, none⟩), .pointer (some ⟨pc, 0, none⟩)]] → w.heap.size ≤ tc → w.heap.size ≤ pc → V.node.ok anew → (T.count : Int) + V.node.size ≤ T.cap → (V.node.high : Int) ≤ T.dep →
      Calls Try.prog 125 #[V.agg, .pointer (some ⟨tc, 0, none⟩), .pointer (some ⟨pc, 0, none⟩)] W fun e w' => e = .returned (I ((DT.graftP anew V.node T).1 : Nat)) ∧ Mut tb (DT.graftP anew V.node T).2 (fun b => b ∈ repBlocks tb nv G) W w') := by
    intro W tc pc hb htc hpc h1 h2 hok hc hh
    have hzW := hb.size
    exact put_at V R W T nv G (h.keep hb) hW (hP.keepB hb fun b hb1 => (hR b hb1).1) (fun b hb1 => ⟨by have := (hR b hb1).1; omega, (hR b hb1).2⟩) hs hok hc hh htc hpc (fun hx => by have := hblk _ hx; omega) (fun hx => by have := hblk _ hx; omega)
  have hIns : Hid (∀ (W w5 : World) (T' : DT) (kid : Nat), T'.WF → Below w.heap.size w W → Mut tb T' (fun b => b ∈ repBlocks tb nv G) W w5 → Calls Try.prog 36 #[.pointer (some ⟨tb, 0, none⟩), I parent, I pos, I (kid : Int)] w5 fun e w' => e = .returned (I (T'.insert parent pos kid).1) ∧ Mut tb (T'.insert parent pos kid).2 S w w') := by
    intro W w5 T' kid hW' hb hM
    obtain ⟨⟨nv5, G5, hr5, hs5⟩, ho5⟩ := hM
    have hzW := hb.size
    refine (insertNode_any hr5 (S := fun b => b ∈ repBlocks tb nv5 G5) (fun b hb1 => hb1) hW' parent pos kid).mono ?_
    rintro e w' ⟨he, hm⟩
    refine ⟨he, Mut.seq (S := S) (w := w) (w1 := w5) ?_ ?_ (Below.refl _ _) hm⟩
    · exact (Only.of_below (S := S) hb).trans ho5 fun i _ hi => hS i hi
    · intro b hb1
      rcases hs5 b hb1 with h1 | h1
      · exact .inl (hS b h1)
      · right; omega
  obtain ⟨t, al, x, av, kv, ks⟩ := V
  obtain ⟨a5, n5, c5, a6, n6, c6, rfl, rfl⟩ := VN.forms hP
  generalize hN : (VN.mk t al x (.slice a5 n5 c5) (.slice a6 n6 c6) ks).node = nd at *
  dsimp only [VN.agg] at HMe hput ⊢
  have HH := Lib.hid (And.intro h (And.intro hS (And.intro hW (And.intro hN hspec))))
  unfold DT.graft
  generalize hsz : nd.size = sz at *
  generalize hhg : nd.high = hg at *
  generalize her : nd.err anew 0 = er at *
  have HQ := Lib.hid (And.intro hsz (And.intro hhg her))
  have hg2 : hg ≤ 100000 := by omega
  cases hp : T.get parent with
  | none =>
    have e : pp = none := by rw [h.ptr_none hp] at hpp; cases hpp; rfl
    subst e
    clear hpp hp h hS hW hspec hN hP hR hs hz hhi herr hsz hhg her hblk
    go_enter Try.func46, Try.ntmps46
    go_wp2_with ((with_reducible refine (HGP.out _ (by repeat (first | exact Below.refl _ _ | assumption | (refine Below.setCell ?_ (by first | (simp; done) | (simp; omega) | omega) _) | (refine Below.alloc ?_ (by first | (simp; done) | (simp; omega) | omega) _) | (refine Below.drew ?_) | (refine Below.drewN' ?_ _)))).mono ?_); rintro e w' ⟨rfl, rfl⟩)
    go_ret2
    exact ⟨rfl, HM0.out _ (by repeat (first | exact Below.refl _ _ | assumption | (refine Below.setCell ?_ (by first | (simp; done) | (simp; omega) | omega) _) | (refine Below.alloc ?_ (by first | (simp; done) | (simp; omega) | omega) _) | (refine Below.drew ?_) | (refine Below.drewN' ?_ _)))⟩
  | some p =>
    dsimp only
    obtain ⟨g, hpg, hrp, hg1⟩ := h.ptr_some hp
    rw [hpp] at hpg
    cases hpg
    have hcp := hrp.1.cell
    have hgl := hrp.1.lt
    have hkl := kids_len hW (DT.get_some hp).2.1
    have hdd : T.depth parent = (T.depthF DT.fuel parent.toNat : Int) := DT.depth_has hp
    have hdl := hW.depth_le (DT.get_some hp).2.1
    have htc := h.tree.cell
    have htl := h.tree.lt
    have hcnt : T.count ≤ 2000 := Nat.le_trans List.countP_le_length hl
    obtain ⟨A, cap, hv, _, _, _⟩ := hrp.2.2.form
    rw [hv] at hcp
    rw [hdd] at HD ⊢
    generalize hDD : T.depthF DT.fuel parent.toNat = dd at *
    generalize hM : p.kids.length = m at *
    generalize hT : p.tag = tg at *
    have HZ := Lib.hid (And.intro hDD (And.intro hM (And.intro hT (And.intro hp hdd))))
    have hml : ((m : Nat) : Int) ≤ 2000 := by omega
    clear h hS hW hspec hN hP hR hs hz hhi hsz hhg her hpp hp hrp hg1 hv hdd hDD hM hT hkl hblk
    by_cases ht : tg = 0
    · have hd : (tg == 0) = true := by simp [ht]
      rw [if_pos ht]
      clear ht
      go_enter Try.func46, Try.ntmps46
      go_wp2_with ((with_reducible refine (HGP.out _ (by repeat (first | exact Below.refl _ _ | assumption | (refine Below.setCell ?_ (by first | (simp; done) | (simp; omega) | omega) _) | (refine Below.alloc ?_ (by first | (simp; done) | (simp; omega) | omega) _) | (refine Below.drew ?_) | (refine Below.drewN' ?_ _)))).mono ?_); rintro e w' ⟨rfl, rfl⟩)
      go_ret2
      exact ⟨rfl, HM0.out _ (by repeat (first | exact Below.refl _ _ | assumption | (refine Below.setCell ?_ (by first | (simp; done) | (simp; omega) | omega) _) | (refine Below.alloc ?_ (by first | (simp; done) | (simp; omega) | omega) _) | (refine Below.drew ?_) | (refine Below.drewN' ?_ _)))⟩
    have hd : (tg == 0) = false := by simp [ht]
    rw [if_neg ht]
    have HTg := Lib.hid ht
    clear ht
    by_cases hbad : pos < 0 ∨ (m : Int) < pos
    · rw [if_pos hbad]
      have hc : decide (pos < 0) = true ∨ (decide (pos < 0) = false ∧ decide ((m : Int) < pos) = true) := by
        simp only [decide_eq_true_eq, decide_eq_false_iff_not]
        omega
      clear hbad
      rcases hc with c1 | ⟨c1, c2⟩
      all_goals
        go_enter Try.func46, Try.ntmps46
        go_wp2_with ((with_reducible refine (HGP.out _ (by repeat (first | exact Below.refl _ _ | assumption | (refine Below.setCell ?_ (by first | (simp; done) | (simp; omega) | omega) _) | (refine Below.alloc ?_ (by first | (simp; done) | (simp; omega) | omega) _) | (refine Below.drew ?_) | (refine Below.drewN' ?_ _)))).mono ?_); rintro e w' ⟨rfl, rfl⟩)
        go_ret2
        exact ⟨rfl, HM0.out _ (by repeat (first | exact Below.refl _ _ | assumption | (refine Below.setCell ?_ (by first | (simp; done) | (simp; omega) | omega) _) | (refine Below.alloc ?_ (by first | (simp; done) | (simp; omega) | omega) _) | (refine Below.drew ?_) | (refine Below.drewN' ?_ _)))⟩
    rw [if_neg hbad]
    have c1 : decide (pos < 0) = false := by simp; omega
    have c2 : decide ((m : Int) < pos) = false := by simp; omega
    have HPo := Lib.hid hbad
    clear hbad
    by_cases he : er = 0
    · have c3 : (er == 0) = true := by simp [he]
      have c3' : (er != 0) = false := by simp [he]
      rw [if_neg (by simp [he])]
      have HE := Lib.hid he
      clear he herr
      by_cases hdp : T.dep < (dd : Int) + 1 + hg
      · rw [if_pos hdp]
        have c4 : decide (T.dep < (dd : Int) + 1 + hg) = true := by simp [hdp]
        clear hdp
        go_enter Try.func46, Try.ntmps46
        go_wp2_with (first | ((with_reducible refine (HGP.out _ (by repeat (first | exact Below.refl _ _ | assumption | (refine Below.setCell ?_ (by first | (simp; done) | (simp; omega) | omega) _) | (refine Below.alloc ?_ (by first | (simp; done) | (simp; omega) | omega) _) | (refine Below.drew ?_) | (refine Below.drewN' ?_ _)))).mono ?_); rintro e w' ⟨rfl, rfl⟩) | ((with_reducible refine (HMe.out _ (by repeat (first | exact Below.refl _ _ | assumption | (refine Below.setCell ?_ (by first | (simp; done) | (simp; omega) | omega) _) | (refine Below.alloc ?_ (by first | (simp; done) | (simp; omega) | omega) _) | (refine Below.drew ?_) | (refine Below.drewN' ?_ _)))).mono ?_); rintro e w1 ⟨rfl, hb⟩; have hz_w1 := hb.size; (try simp only [World.size_alloc, World.size_setCell, World.size_drew, size_drewN'] at hz_w1); have k0_w1 : At w1 (w.heap.size) 36 #[.pointer (some ⟨tb, 0, none⟩)] := At.keep (by (repeat' (first | (with_reducible assumption) | (with_reducible refine unhid ?_; with_reducible assumption) | (with_reducible refine At.fresh _ _ _ (by first | (simp; done) | (simp; omega) | omega)) | (with_reducible apply At.set') | (with_reducible apply At.far) | (with_reducible apply At.alloc) | (with_reducible apply At.drew) | (with_reducible apply At.drewN) | exact (rfl : Array.setIfInBounds _ _ _ = _) | (refine Ne.symm ?_; simp; done) | (show _ ≠ _; simp; done) | (show _ ≠ _; simp; omega) | (show _ ≠ _; omega))); (first | done | fail)) hb; have k0_w1c := At.cell k0_w1; have k0_w1f := At.frozen k0_w1; have k0_w1h := Lib.hid k0_w1; clear k0_w1; have k1_w1 : At w1 (w.heap.size + 1) 41 #[I t, .slice a5 n5 c5, .string x, .slice a6 n6 c6] := At.keep (by (repeat' (first | (with_reducible assumption) | (with_reducible refine unhid ?_; with_reducible assumption) | (with_reducible refine At.fresh _ _ _ (by first | (simp; done) | (simp; omega) | omega)) | (with_reducible apply At.set') | (with_reducible apply At.far) | (with_reducible apply At.alloc) | (with_reducible apply At.drew) | (with_reducible apply At.drewN) | exact (rfl : Array.setIfInBounds _ _ _ = _) | (refine Ne.symm ?_; simp; done) | (show _ ≠ _; simp; done) | (show _ ≠ _; simp; omega) | (show _ ≠ _; omega))); (first | done | fail)) hb; have k1_w1c := At.cell k1_w1; have k1_w1f := At.frozen k1_w1; have k1_w1h := Lib.hid k1_w1; clear k1_w1; have hb_w1 : Below w.heap.size w w1 := Below.trans (by exact (by repeat (first | exact Below.refl _ _ | assumption | (refine Below.setCell ?_ (by first | (simp; done) | (simp; omega) | omega) _) | (refine Below.alloc ?_ (by first | (simp; done) | (simp; omega) | omega) _) | (refine Below.drew ?_) | (refine Below.drewN' ?_ _)))) (hb.mono (by first | (simp; done) | (simp; omega) | omega)); obtain ⟨hc_w1, hf_w1⟩ := bcell hb_w1; clear hb))
        go_quiet (exact quiet_eq (HD.out _ (by repeat (first | exact Below.refl _ _ | assumption | (refine Below.setCell ?_ (by first | (simp; done) | (simp; omega) | omega) _) | (refine Below.alloc ?_ (by first | (simp; done) | (simp; omega) | omega) _) | (refine Below.drew ?_) | (refine Below.drewN' ?_ _)))))
        go_wp2_with fail
        go_ret2
        exact ⟨rfl, HM0.out _ (by repeat (first | exact Below.refl _ _ | assumption | (refine Below.setCell ?_ (by first | (simp; done) | (simp; omega) | omega) _) | (refine Below.alloc ?_ (by first | (simp; done) | (simp; omega) | omega) _) | (refine Below.drew ?_) | (refine Below.drewN' ?_ _)))⟩
      rw [if_neg hdp]
      have c4 : decide (T.dep < (dd : Int) + 1 + hg) = false := by simp; omega
      have HDp := Lib.hid hdp
      clear hdp
      cases hr : T.roomFor sz with
      | false =>
        unfold DT.roomFor at hr
        rw [hr] at HRo
        rw [if_pos rfl]
        clear hr
        go_enter Try.func46, Try.ntmps46
        go_wp2_with (first | ((with_reducible refine (HGP.out _ (by repeat (first | exact Below.refl _ _ | assumption | (refine Below.setCell ?_ (by first | (simp; done) | (simp; omega) | omega) _) | (refine Below.alloc ?_ (by first | (simp; done) | (simp; omega) | omega) _) | (refine Below.drew ?_) | (refine Below.drewN' ?_ _)))).mono ?_); rintro e w' ⟨rfl, rfl⟩) | ((with_reducible refine (HMe.out _ (by repeat (first | exact Below.refl _ _ | assumption | (refine Below.setCell ?_ (by first | (simp; done) | (simp; omega) | omega) _) | (refine Below.alloc ?_ (by first | (simp; done) | (simp; omega) | omega) _) | (refine Below.drew ?_) | (refine Below.drewN' ?_ _)))).mono ?_); rintro e w1 ⟨rfl, hb⟩; have hz_w1 := hb.size; (try simp only [World.size_alloc, World.size_setCell, World.size_drew, size_drewN'] at hz_w1); have k0_w1 : At w1 (w.heap.size) 36 #[.pointer (some ⟨tb, 0, none⟩)] := At.keep (by (repeat' (first | (with_reducible assumption) | (with_reducible refine unhid ?_; with_reducible assumption) | (with_reducible refine At.fresh _ _ _ (by first | (simp; done) | (simp; omega) | omega)) | (with_reducible apply At.set') | (with_reducible apply At.far) | (with_reducible apply At.alloc) | (with_reducible apply At.drew) | (with_reducible apply At.drewN) | exact (rfl : Array.setIfInBounds _ _ _ = _) | (refine Ne.symm ?_; simp; done) | (show _ ≠ _; simp; done) | (show _ ≠ _; simp; omega) | (show _ ≠ _; omega))); (first | done | fail)) hb; have k0_w1c := At.cell k0_w1; have k0_w1f := At.frozen k0_w1; have k0_w1h := Lib.hid k0_w1; clear k0_w1; have k1_w1 : At w1 (w.heap.size + 1) 41 #[I t, .slice a5 n5 c5, .string x, .slice a6 n6 c6] := At.keep (by (repeat' (first | (with_reducible assumption) | (with_reducible refine unhid ?_; with_reducible assumption) | (with_reducible refine At.fresh _ _ _ (by first | (simp; done) | (simp; omega) | omega)) | (with_reducible apply At.set') | (with_reducible apply At.far) | (with_reducible apply At.alloc) | (with_reducible apply At.drew) | (with_reducible apply At.drewN) | exact (rfl : Array.setIfInBounds _ _ _ = _) | (refine Ne.symm ?_; simp; done) | (show _ ≠ _; simp; done) | (show _ ≠ _; simp; omega) | (show _ ≠ _; omega))); (first | done | fail)) hb; have k1_w1c := At.cell k1_w1; have k1_w1f := At.frozen k1_w1; have k1_w1h := Lib.hid k1_w1; clear k1_w1; have hb_w1 : Below w.heap.size w w1 := Below.trans (by exact (by repeat (first | exact Below.refl _ _ | assumption | (refine Below.setCell ?_ (by first | (simp; done) | (simp; omega) | omega) _) | (refine Below.alloc ?_ (by first | (simp; done) | (simp; omega) | omega) _) | (refine Below.drew ?_) | (refine Below.drewN' ?_ _)))) (hb.mono (by first | (simp; done) | (simp; omega) | omega)); obtain ⟨hc_w1, hf_w1⟩ := bcell hb_w1; clear hb))
        go_quiet (exact quiet_eq (HD.out _ (by repeat (first | exact Below.refl _ _ | assumption | (refine Below.setCell ?_ (by first | (simp; done) | (simp; omega) | omega) _) | (refine Below.alloc ?_ (by first | (simp; done) | (simp; omega) | omega) _) | (refine Below.drew ?_) | (refine Below.drewN' ?_ _)))))
        go_wp2_with (first | ((with_reducible refine (HRo.out _ (by repeat (first | exact Below.refl _ _ | assumption | (refine Below.setCell ?_ (by first | (simp; done) | (simp; omega) | omega) _) | (refine Below.alloc ?_ (by first | (simp; done) | (simp; omega) | omega) _) | (refine Below.drew ?_) | (refine Below.drewN' ?_ _)))).mono ?_); rintro e w2 ⟨rfl, hb⟩; have hz_w2 := hb.size; (try simp only [World.size_alloc, World.size_setCell, World.size_drew, size_drewN'] at hz_w2); have k0_w2 : At w2 (w.heap.size) 36 #[.pointer (some ⟨tb, 0, none⟩)] := At.keep (by (repeat' (first | (with_reducible assumption) | (with_reducible refine unhid ?_; with_reducible assumption) | (with_reducible refine At.fresh _ _ _ (by first | (simp; done) | (simp; omega) | omega)) | (with_reducible apply At.set') | (with_reducible apply At.far) | (with_reducible apply At.alloc) | (with_reducible apply At.drew) | (with_reducible apply At.drewN) | exact (rfl : Array.setIfInBounds _ _ _ = _) | (refine Ne.symm ?_; simp; done) | (show _ ≠ _; simp; done) | (show _ ≠ _; simp; omega) | (show _ ≠ _; omega))); (first | done | fail)) hb; have k0_w2c := At.cell k0_w2; have k0_w2f := At.frozen k0_w2; have k0_w2h := Lib.hid k0_w2; clear k0_w2; have k1_w2 : At w2 (w.heap.size + 1) 41 #[I t, .slice a5 n5 c5, .string x, .slice a6 n6 c6] := At.keep (by (repeat' (first | (with_reducible assumption) | (with_reducible refine unhid ?_; with_reducible assumption) | (with_reducible refine At.fresh _ _ _ (by first | (simp; done) | (simp; omega) | omega)) | (with_reducible apply At.set') | (with_reducible apply At.far) | (with_reducible apply At.alloc) | (with_reducible apply At.drew) | (with_reducible apply At.drewN) | exact (rfl : Array.setIfInBounds _ _ _ = _) | (refine Ne.symm ?_; simp; done) | (show _ ≠ _; simp; done) | (show _ ≠ _; simp; omega) | (show _ ≠ _; omega))); (first | done | fail)) hb; have k1_w2c := At.cell k1_w2; have k1_w2f := At.frozen k1_w2; have k1_w2h := Lib.hid k1_w2; clear k1_w2; have hb_w2 : Below w.heap.size w w2 := Below.trans (by exact (by repeat (first | exact Below.refl _ _ | assumption | (refine Below.setCell ?_ (by first | (simp; done) | (simp; omega) | omega) _) | (refine Below.alloc ?_ (by first | (simp; done) | (simp; omega) | omega) _) | (refine Below.drew ?_) | (refine Below.drewN' ?_ _)))) (hb.mono (by first | (simp; done) | (simp; omega) | omega)); obtain ⟨hc_w2, hf_w2⟩ := bcell hb_w2; clear hb))
        go_ret2
        exact ⟨rfl, HM0.out _ (by repeat (first | exact Below.refl _ _ | assumption | (refine Below.setCell ?_ (by first | (simp; done) | (simp; omega) | omega) _) | (refine Below.alloc ?_ (by first | (simp; done) | (simp; omega) | omega) _) | (refine Below.drew ?_) | (refine Below.drewN' ?_ _)))⟩
      | true =>
        unfold DT.roomFor at hr
        rw [hr] at HRo
        rw [if_neg (by simp)]
        have hroom : (T.count : Int) + sz ≤ T.cap := by simp at hr; omega
        clear hr
        have hok : nd.ok anew := PNode.err_ok nd (by rw [HQ.out.2.2, HE.out])
        have hhd : (hg : Int) ≤ T.dep := by have := HDp.out; omega
        have hPW : (DT.graftP anew nd T).2.WF := by
          refine (DT.graft_put (f := anew) nd T HH.out.2.2.1 hok ?_ ?_).wf
          · rw [HQ.out.1]; exact hroom
          · rw [HQ.out.2.1]; exact hhd
        have HPut := Lib.hid (fun (W : World) (tc pc : Nat) (a1 : _) (a2 : _) (a3 : _) (a4 : _) (a5 : _) => hput.out W tc pc a1 a2 a3 a4 a5 hok hroom hhd)
        have HIn := Lib.hid (fun (W w5 : World) (a1 : _) (a2 : _) => hIns.out W w5 (DT.graftP anew nd T).2 (DT.graftP anew nd T).1 hPW a1 a2)
        clear hput hIns hok hhd hPW
        generalize (DT.graftP anew nd T).1 = kid at *
        generalize (DT.graftP anew nd T).2 = T' at *
        generalize hri : T'.insert parent pos (kid : Int) = ri at *
        have hblk := HH.out.1.lt
        have HBl := Lib.hid hblk
        clear hblk hri
        go_enter Try.func46, Try.ntmps46
        go_wp2_with (first | ((with_reducible refine (HGP.out _ (by repeat (first | exact Below.refl _ _ | assumption | (refine Below.setCell ?_ (by first | (simp; done) | (simp; omega) | omega) _) | (refine Below.alloc ?_ (by first | (simp; done) | (simp; omega) | omega) _) | (refine Below.drew ?_) | (refine Below.drewN' ?_ _)))).mono ?_); rintro e w' ⟨rfl, rfl⟩) | ((with_reducible refine (HMe.out _ (by repeat (first | exact Below.refl _ _ | assumption | (refine Below.setCell ?_ (by first | (simp; done) | (simp; omega) | omega) _) | (refine Below.alloc ?_ (by first | (simp; done) | (simp; omega) | omega) _) | (refine Below.drew ?_) | (refine Below.drewN' ?_ _)))).mono ?_); rintro e w1 ⟨rfl, hb⟩; have hz_w1 := hb.size; (try simp only [World.size_alloc, World.size_setCell, World.size_drew, size_drewN'] at hz_w1); have k0_w1 : At w1 (w.heap.size) 36 #[.pointer (some ⟨tb, 0, none⟩)] := At.keep (by (repeat' (first | (with_reducible assumption) | (with_reducible refine unhid ?_; with_reducible assumption) | (with_reducible refine At.fresh _ _ _ (by first | (simp; done) | (simp; omega) | omega)) | (with_reducible apply At.set') | (with_reducible apply At.far) | (with_reducible apply At.alloc) | (with_reducible apply At.drew) | (with_reducible apply At.drewN) | exact (rfl : Array.setIfInBounds _ _ _ = _) | (refine Ne.symm ?_; simp; done) | (show _ ≠ _; simp; done) | (show _ ≠ _; simp; omega) | (show _ ≠ _; omega))); (first | done | fail)) hb; have k0_w1c := At.cell k0_w1; have k0_w1f := At.frozen k0_w1; have k0_w1h := Lib.hid k0_w1; clear k0_w1; have k1_w1 : At w1 (w.heap.size + 1) 41 #[I t, .slice a5 n5 c5, .string x, .slice a6 n6 c6] := At.keep (by (repeat' (first | (with_reducible assumption) | (with_reducible refine unhid ?_; with_reducible assumption) | (with_reducible refine At.fresh _ _ _ (by first | (simp; done) | (simp; omega) | omega)) | (with_reducible apply At.set') | (with_reducible apply At.far) | (with_reducible apply At.alloc) | (with_reducible apply At.drew) | (with_reducible apply At.drewN) | exact (rfl : Array.setIfInBounds _ _ _ = _) | (refine Ne.symm ?_; simp; done) | (show _ ≠ _; simp; done) | (show _ ≠ _; simp; omega) | (show _ ≠ _; omega))); (first | done | fail)) hb; have k1_w1c := At.cell k1_w1; have k1_w1f := At.frozen k1_w1; have k1_w1h := Lib.hid k1_w1; clear k1_w1; have hb_w1 : Below w.heap.size w w1 := Below.trans (by exact (by repeat (first | exact Below.refl _ _ | assumption | (refine Below.setCell ?_ (by first | (simp; done) | (simp; omega) | omega) _) | (refine Below.alloc ?_ (by first | (simp; done) | (simp; omega) | omega) _) | (refine Below.drew ?_) | (refine Below.drewN' ?_ _)))) (hb.mono (by first | (simp; done) | (simp; omega) | omega)); obtain ⟨hc_w1, hf_w1⟩ := bcell hb_w1; clear hb))
        go_quiet (exact quiet_eq (HD.out _ (by repeat (first | exact Below.refl _ _ | assumption | (refine Below.setCell ?_ (by first | (simp; done) | (simp; omega) | omega) _) | (refine Below.alloc ?_ (by first | (simp; done) | (simp; omega) | omega) _) | (refine Below.drew ?_) | (refine Below.drewN' ?_ _)))))
        go_wp2_with (first | ((with_reducible refine (HRo.out _ (by repeat (first | exact Below.refl _ _ | assumption | (refine Below.setCell ?_ (by first | (simp; done) | (simp; omega) | omega) _) | (refine Below.alloc ?_ (by first | (simp; done) | (simp; omega) | omega) _) | (refine Below.drew ?_) | (refine Below.drewN' ?_ _)))).mono ?_); rintro e w2 ⟨rfl, hb⟩; have hz_w2 := hb.size; (try simp only [World.size_alloc, World.size_setCell, World.size_drew, size_drewN'] at hz_w2); have k0_w2 : At w2 (w.heap.size) 36 #[.pointer (some ⟨tb, 0, none⟩)] := At.keep (by (repeat' (first | (with_reducible assumption) | (with_reducible refine unhid ?_; with_reducible assumption) | (with_reducible refine At.fresh _ _ _ (by first | (simp; done) | (simp; omega) | omega)) | (with_reducible apply At.set') | (with_reducible apply At.far) | (with_reducible apply At.alloc) | (with_reducible apply At.drew) | (with_reducible apply At.drewN) | exact (rfl : Array.setIfInBounds _ _ _ = _) | (refine Ne.symm ?_; simp; done) | (show _ ≠ _; simp; done) | (show _ ≠ _; simp; omega) | (show _ ≠ _; omega))); (first | done | fail)) hb; have k0_w2c := At.cell k0_w2; have k0_w2f := At.frozen k0_w2; have k0_w2h := Lib.hid k0_w2; clear k0_w2; have k1_w2 : At w2 (w.heap.size + 1) 41 #[I t, .slice a5 n5 c5, .string x, .slice a6 n6 c6] := At.keep (by (repeat' (first | (with_reducible assumption) | (with_reducible refine unhid ?_; with_reducible assumption) | (with_reducible refine At.fresh _ _ _ (by first | (simp; done) | (simp; omega) | omega)) | (with_reducible apply At.set') | (with_reducible apply At.far) | (with_reducible apply At.alloc) | (with_reducible apply At.drew) | (with_reducible apply At.drewN) | exact (rfl : Array.setIfInBounds _ _ _ = _) | (refine Ne.symm ?_; simp; done) | (show _ ≠ _; simp; done) | (show _ ≠ _; simp; omega) | (show _ ≠ _; omega))); (first | done | fail)) hb; have k1_w2c := At.cell k1_w2; have k1_w2f := At.frozen k1_w2; have k1_w2h := Lib.hid k1_w2; clear k1_w2; have hb_w2 : Below w.heap.size w w2 := Below.trans (by exact (by repeat (first | exact Below.refl _ _ | assumption | (refine Below.setCell ?_ (by first | (simp; done) | (simp; omega) | omega) _) | (refine Below.alloc ?_ (by first | (simp; done) | (simp; omega) | omega) _) | (refine Below.drew ?_) | (refine Below.drewN' ?_ _)))) (hb.mono (by first | (simp; done) | (simp; omega) | omega)); obtain ⟨hc_w2, hf_w2⟩ := bcell hb_w2; clear hb) | ((with_reducible refine (HPut.out _ _ _ (by repeat (first | exact Below.refl _ _ | assumption | (refine Below.setCell ?_ (by first | (simp; done) | (simp; omega) | omega) _) | (refine Below.alloc ?_ (by first | (simp; done) | (simp; omega) | omega) _) | (refine Below.drew ?_) | (refine Below.drewN' ?_ _))) (by (repeat' (first | (with_reducible assumption) | (with_reducible refine unhid ?_; with_reducible assumption) | (with_reducible refine At.fresh _ _ _ (by first | (simp; done) | (simp; omega) | omega)) | (with_reducible apply At.set') | (with_reducible apply At.far) | (with_reducible apply At.alloc) | (with_reducible apply At.drew) | (with_reducible apply At.drewN) | exact (rfl : Array.setIfInBounds _ _ _ = _) | (refine Ne.symm ?_; simp; done) | (show _ ≠ _; simp; done) | (show _ ≠ _; simp; omega) | (show _ ≠ _; omega))); (first | done | fail)) (by (repeat' (first | (with_reducible assumption) | (with_reducible refine unhid ?_; with_reducible assumption) | (with_reducible refine At.fresh _ _ _ (by first | (simp; done) | (simp; omega) | omega)) | (with_reducible apply At.set') | (with_reducible apply At.far) | (with_reducible apply At.alloc) | (with_reducible apply At.drew) | (with_reducible apply At.drewN) | exact (rfl : Array.setIfInBounds _ _ _ = _) | (refine Ne.symm ?_; simp; done) | (show _ ≠ _; simp; done) | (show _ ≠ _; simp; omega) | (show _ ≠ _; omega))); (first | done | fail)) (by first | (simp; done) | (simp; omega) | omega) (by first | (simp; done) | (simp; omega) | omega)).mono ?_); rintro e w5 ⟨rfl, hM⟩; have hMo := hM.2; have kt5 : At w5 w.heap.size 36 #[.pointer (some ⟨tb, 0, none⟩)] := (hMo.block _ (At.lt (t := 36) (cs := #[.pointer (some ⟨tb, 0, none⟩)]) (by (repeat' (first | (with_reducible assumption) | (with_reducible refine unhid ?_; with_reducible assumption) | (with_reducible refine At.fresh _ _ _ (by first | (simp; done) | (simp; omega) | omega)) | (with_reducible apply At.set') | (with_reducible apply At.far) | (with_reducible apply At.alloc) | (with_reducible apply At.drew) | (with_reducible apply At.drewN) | exact (rfl : Array.setIfInBounds _ _ _ = _) | (refine Ne.symm ?_; simp; done) | (show _ ≠ _; simp; done) | (show _ ≠ _; simp; omega) | (show _ ≠ _; omega))); (first | done | fail))) (fun hx => by have := HBl.out _ hx; omega)).trans (show At _ w.heap.size 36 #[.pointer (some ⟨tb, 0, none⟩)] from (by (repeat' (first | (with_reducible assumption) | (with_reducible refine unhid ?_; with_reducible assumption) | (with_reducible refine At.fresh _ _ _ (by first | (simp; done) | (simp; omega) | omega)) | (with_reducible apply At.set') | (with_reducible apply At.far) | (with_reducible apply At.alloc) | (with_reducible apply At.drew) | (with_reducible apply At.drewN) | exact (rfl : Array.setIfInBounds _ _ _ = _) | (refine Ne.symm ?_; simp; done) | (show _ ≠ _; simp; done) | (show _ ≠ _; simp; omega) | (show _ ≠ _; omega))); (first | done | fail))); have kt5c := kt5.cell; have kt5l := kt5.lt; have HI5 := Lib.hid (HIn.out _ _ (by repeat (first | exact Below.refl _ _ | assumption | (refine Below.setCell ?_ (by first | (simp; done) | (simp; omega) | omega) _) | (refine Below.alloc ?_ (by first | (simp; done) | (simp; omega) | omega) _) | (refine Below.drew ?_) | (refine Below.drewN' ?_ _))) hM); clear hM hMo kt5) | ((with_reducible refine HI5.out.mono ?_); rintro e w6 ⟨rfl, hM⟩; have HM6 := Lib.hid hM; clear hM))
        go_ret2
        exact ⟨rfl, HM6.out⟩
    · have c3 : (er == 0) = false := by simp [he]
      have c3' : (er != 0) = true := by simp [he]
      rw [if_pos he]
      clear he
      go_enter Try.func46, Try.ntmps46
      go_wp2_with (first | ((with_reducible refine (HGP.out _ (by repeat (first | exact Below.refl _ _ | assumption | (refine Below.setCell ?_ (by first | (simp; done) | (simp; omega) | omega) _) | (refine Below.alloc ?_ (by first | (simp; done) | (simp; omega) | omega) _) | (refine Below.drew ?_) | (refine Below.drewN' ?_ _)))).mono ?_); rintro e w' ⟨rfl, rfl⟩) | ((with_reducible refine (HMe.out _ (by repeat (first | exact Below.refl _ _ | assumption | (refine Below.setCell ?_ (by first | (simp; done) | (simp; omega) | omega) _) | (refine Below.alloc ?_ (by first | (simp; done) | (simp; omega) | omega) _) | (refine Below.drew ?_) | (refine Below.drewN' ?_ _)))).mono ?_); rintro e w1 ⟨rfl, hb⟩; have hz_w1 := hb.size; (try simp only [World.size_alloc, World.size_setCell, World.size_drew, size_drewN'] at hz_w1); have k0_w1 : At w1 (w.heap.size) 36 #[.pointer (some ⟨tb, 0, none⟩)] := At.keep (by (repeat' (first | (with_reducible assumption) | (with_reducible refine unhid ?_; with_reducible assumption) | (with_reducible refine At.fresh _ _ _ (by first | (simp; done) | (simp; omega) | omega)) | (with_reducible apply At.set') | (with_reducible apply At.far) | (with_reducible apply At.alloc) | (with_reducible apply At.drew) | (with_reducible apply At.drewN) | exact (rfl : Array.setIfInBounds _ _ _ = _) | (refine Ne.symm ?_; simp; done) | (show _ ≠ _; simp; done) | (show _ ≠ _; simp; omega) | (show _ ≠ _; omega))); (first | done | fail)) hb; have k0_w1c := At.cell k0_w1; have k0_w1f := At.frozen k0_w1; have k0_w1h := Lib.hid k0_w1; clear k0_w1; have k1_w1 : At w1 (w.heap.size + 1) 41 #[I t, .slice a5 n5 c5, .string x, .slice a6 n6 c6] := At.keep (by (repeat' (first | (with_reducible assumption) | (with_reducible refine unhid ?_; with_reducible assumption) | (with_reducible refine At.fresh _ _ _ (by first | (simp; done) | (simp; omega) | omega)) | (with_reducible apply At.set') | (with_reducible apply At.far) | (with_reducible apply At.alloc) | (with_reducible apply At.drew) | (with_reducible apply At.drewN) | exact (rfl : Array.setIfInBounds _ _ _ = _) | (refine Ne.symm ?_; simp; done) | (show _ ≠ _; simp; done) | (show _ ≠ _; simp; omega) | (show _ ≠ _; omega))); (first | done | fail)) hb; have k1_w1c := At.cell k1_w1; have k1_w1f := At.frozen k1_w1; have k1_w1h := Lib.hid k1_w1; clear k1_w1; have hb_w1 : Below w.heap.size w w1 := Below.trans (by exact (by repeat (first | exact Below.refl _ _ | assumption | (refine Below.setCell ?_ (by first | (simp; done) | (simp; omega) | omega) _) | (refine Below.alloc ?_ (by first | (simp; done) | (simp; omega) | omega) _) | (refine Below.drew ?_) | (refine Below.drewN' ?_ _)))) (hb.mono (by first | (simp; done) | (simp; omega) | omega)); obtain ⟨hc_w1, hf_w1⟩ := bcell hb_w1; clear hb))
      go_ret2
      exact ⟨rfl, HM0.out _ (by repeat (first | exact Below.refl _ _ | assumption | (refine Below.setCell ?_ (by first | (simp; done) | (simp; omega) | omega) _) | (refine Below.alloc ?_ (by first | (simp; done) | (simp; omega) | omega) _) | (refine Below.drew ?_) | (refine Below.drewN' ?_ _)))⟩
end
end Go.Proofs.Ytnnjlpkjpbbklaa
