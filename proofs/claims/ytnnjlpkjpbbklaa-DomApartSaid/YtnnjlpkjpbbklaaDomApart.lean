/-
  DomApart walked: it returns true. Conditions: the calls lie in memory.
-/
import Derived.Test.YtnnjlpkjpbbklaaToldV
set_option linter.unusedVariables false
set_option linter.unusedSimpArgs false
namespace Go.Proofs.Ytnnjlpkjpbbklaa
open Go.RowKit

/-- A copy is a tree of its own, from the world on that it was made in. -/
theorem Sat.apart {tb : Nat} {S : Nat → Prop} {w0 W : World} {T : DT} (h : Sat tb S w0 T W) : Calls Try.prog 35 #[.pointer (some ⟨tb, 0, none⟩)] W fun e w' => e = .returned (.pointer (some ⟨W.heap.size, 0, none⟩)) ∧ Sat W.heap.size (fun _ => False) W T w' := by
  refine h.copy.mono ?_
  rintro e w' ⟨he, ⟨nv, G, hr, hs⟩, hb⟩
  exact ⟨he, ⟨⟨nv, G, hr, fun b hb1 => .inr (hs b hb1)⟩, Only.of_below (S := fun _ => False) hb⟩, h.wf, h.ab⟩

set_option maxRecDepth 100000 in
set_option maxHeartbeats 8000000 in
theorem domApart_any {w : World} {R : Nat → Prop} {v : Value} {l : List CN} (h : CallsAt w R v l) (hR : ∀ b, R b → b < w.heap.size) {R' : Nat → Prop} {v' : Value} {more : List CN} (h' : CallsAt w R' v' more) (hR' : ∀ b, R' b → b < w.heap.size) (cap dep : Int) :
    Calls Try.prog 6 #[I cap, I dep, v, v'] w (Ret (.bool true) w) := by
  obtain ⟨A, vcap, hv, hcap, hmx, -⟩ := h.row.form
  obtain ⟨A', vcap', hv', hcap', hmx', -⟩ := h'.row.form
  have HHe := Lib.hid (heavy_any h hR)
  have HHm : Hid (∀ W, Below w.heap.size w W → Calls Try.prog 30 #[v'] W (Ret (.bool (heavy (more.map CN.call))) W)) := fun W hb => heavy_any (h'.keep fun b hb1 => hb.block b (hR' b hb1)) (fun b hb1 => Nat.lt_of_lt_of_le (hR' b hb1) hb.size)
  cases hhe : heavy (l.map CN.call) with
  | true =>
    rw [hhe] at HHe
    subst hv hv'
    clear h hhe h' HHm
    generalize l.length = n at *
    generalize more.length = n' at *
    go_enter Try.func6, Try.ntmps6
    go_wp2_with (first | ((with_reducible refine (HHe.out).mono ?_); rintro e w1 ⟨rfl, hb⟩; have hz_w1 := hb.size; (try simp only [World.size_alloc, World.size_setCell, World.size_drew, size_drewN'] at hz_w1); have hb_w1 : Below w.heap.size w w1 := Below.trans (by exact (by repeat (first | exact Below.refl _ _ | assumption | (refine Below.setCell ?_ (by first | (simp; done) | (simp; omega) | omega) _) | (refine Below.alloc ?_ (by first | (simp; done) | (simp; omega) | omega) _) | (refine Below.drew ?_) | (refine Below.drewN' ?_ _)))) (hb.mono (by first | (simp; done) | (simp; omega) | omega)); obtain ⟨hc_w1, hf_w1⟩ := bcell hb_w1; clear hb) | ((with_reducible refine (awake08_any).mono ?_); rintro e w2 ⟨rfl, hb⟩; have hz_w2 := hb.size; (try simp only [World.size_alloc, World.size_setCell, World.size_drew, size_drewN'] at hz_w2); have hb_w2 : Below w.heap.size w w2 := Below.trans (by exact (by repeat (first | exact Below.refl _ _ | assumption | (refine Below.setCell ?_ (by first | (simp; done) | (simp; omega) | omega) _) | (refine Below.alloc ?_ (by first | (simp; done) | (simp; omega) | omega) _) | (refine Below.drew ?_) | (refine Below.drewN' ?_ _)))) (hb.mono (by first | (simp; done) | (simp; omega) | omega)); obtain ⟨hc_w2, hf_w2⟩ := bcell hb_w2; clear hb))
    go_ret
    exact ⟨rfl, (by repeat (first | exact Below.refl _ _ | assumption | (refine Below.setCell ?_ (by first | (simp; done) | (simp; omega) | omega) _) | (refine Below.alloc ?_ (by first | (simp; done) | (simp; omega) | omega) _) | (refine Below.drew ?_) | (refine Below.drewN' ?_ _)))⟩
  | false =>
    rw [hhe] at HHe
    cases hhm : heavy (more.map CN.call) with
    | true =>
      rw [hhm] at HHm
      subst hv hv'
      clear h hhe h' hhm
      generalize l.length = n at *
      generalize more.length = n' at *
      go_enter Try.func6, Try.ntmps6
      go_wp2_with (first | ((with_reducible refine (HHe.out).mono ?_); rintro e w1 ⟨rfl, hb⟩; have hz_w1 := hb.size; (try simp only [World.size_alloc, World.size_setCell, World.size_drew, size_drewN'] at hz_w1); have hb_w1 : Below w.heap.size w w1 := Below.trans (by exact (by repeat (first | exact Below.refl _ _ | assumption | (refine Below.setCell ?_ (by first | (simp; done) | (simp; omega) | omega) _) | (refine Below.alloc ?_ (by first | (simp; done) | (simp; omega) | omega) _) | (refine Below.drew ?_) | (refine Below.drewN' ?_ _)))) (hb.mono (by first | (simp; done) | (simp; omega) | omega)); obtain ⟨hc_w1, hf_w1⟩ := bcell hb_w1; clear hb) | ((with_reducible refine (HHm.out _ (by repeat (first | exact Below.refl _ _ | assumption | (refine Below.setCell ?_ (by first | (simp; done) | (simp; omega) | omega) _) | (refine Below.alloc ?_ (by first | (simp; done) | (simp; omega) | omega) _) | (refine Below.drew ?_) | (refine Below.drewN' ?_ _)))).mono ?_); rintro e w2 ⟨rfl, hb⟩; have hz_w2 := hb.size; (try simp only [World.size_alloc, World.size_setCell, World.size_drew, size_drewN'] at hz_w2); have hb_w2 : Below w.heap.size w w2 := Below.trans (by exact (by repeat (first | exact Below.refl _ _ | assumption | (refine Below.setCell ?_ (by first | (simp; done) | (simp; omega) | omega) _) | (refine Below.alloc ?_ (by first | (simp; done) | (simp; omega) | omega) _) | (refine Below.drew ?_) | (refine Below.drewN' ?_ _)))) (hb.mono (by first | (simp; done) | (simp; omega) | omega)); obtain ⟨hc_w2, hf_w2⟩ := bcell hb_w2; clear hb) | ((with_reducible refine (awake08_any).mono ?_); rintro e w3 ⟨rfl, hb⟩; have hz_w3 := hb.size; (try simp only [World.size_alloc, World.size_setCell, World.size_drew, size_drewN'] at hz_w3); have hb_w3 : Below w.heap.size w w3 := Below.trans (by exact (by repeat (first | exact Below.refl _ _ | assumption | (refine Below.setCell ?_ (by first | (simp; done) | (simp; omega) | omega) _) | (refine Below.alloc ?_ (by first | (simp; done) | (simp; omega) | omega) _) | (refine Below.drew ?_) | (refine Below.drewN' ?_ _)))) (hb.mono (by first | (simp; done) | (simp; omega) | omega)); obtain ⟨hc_w3, hf_w3⟩ := bcell hb_w3; clear hb))
      go_ret
      exact ⟨rfl, (by repeat (first | exact Below.refl _ _ | assumption | (refine Below.setCell ?_ (by first | (simp; done) | (simp; omega) | omega) _) | (refine Below.alloc ?_ (by first | (simp; done) | (simp; omega) | omega) _) | (refine Below.drew ?_) | (refine Below.drewN' ?_ _)))⟩
    | false =>
      rw [hhm] at HHm
      obtain ⟨hn, hlt0⟩ := heavy_light hhe
      rw [List.length_map] at hn
      have hlt : ∀ c ∈ l, Light c.call := fun c hc => hlt0 _ (List.mem_map.2 ⟨c, hc, rfl⟩)
      obtain ⟨hn', hlt0'⟩ := heavy_light hhm
      rw [List.length_map] at hn'
      have hlt' : ∀ c ∈ more, Light c.call := fun c hc => hlt0' _ (List.mem_map.2 ⟨c, hc, rfl⟩)
      cases hok : newOk cap dep with
      | false =>
        have HPl := Lib.hid (fun (W : World) => played_no (w := W) (v := v) hok)
        subst hv hv'
        clear h hhe hlt0 hlt hok h' hhm hlt0' hlt'
        generalize l.length = n at *
        generalize more.length = n' at *
        go_enter Try.func6, Try.ntmps6
        go_wp2_with (first | ((with_reducible refine (HHe.out).mono ?_); rintro e w1 ⟨rfl, hb⟩; have hz_w1 := hb.size; (try simp only [World.size_alloc, World.size_setCell, World.size_drew, size_drewN'] at hz_w1); have hb_w1 : Below w.heap.size w w1 := Below.trans (by exact (by repeat (first | exact Below.refl _ _ | assumption | (refine Below.setCell ?_ (by first | (simp; done) | (simp; omega) | omega) _) | (refine Below.alloc ?_ (by first | (simp; done) | (simp; omega) | omega) _) | (refine Below.drew ?_) | (refine Below.drewN' ?_ _)))) (hb.mono (by first | (simp; done) | (simp; omega) | omega)); obtain ⟨hc_w1, hf_w1⟩ := bcell hb_w1; clear hb) | ((with_reducible refine (HHm.out _ (by repeat (first | exact Below.refl _ _ | assumption | (refine Below.setCell ?_ (by first | (simp; done) | (simp; omega) | omega) _) | (refine Below.alloc ?_ (by first | (simp; done) | (simp; omega) | omega) _) | (refine Below.drew ?_) | (refine Below.drewN' ?_ _)))).mono ?_); rintro e w2 ⟨rfl, hb⟩; have hz_w2 := hb.size; (try simp only [World.size_alloc, World.size_setCell, World.size_drew, size_drewN'] at hz_w2); have hb_w2 : Below w.heap.size w w2 := Below.trans (by exact (by repeat (first | exact Below.refl _ _ | assumption | (refine Below.setCell ?_ (by first | (simp; done) | (simp; omega) | omega) _) | (refine Below.alloc ?_ (by first | (simp; done) | (simp; omega) | omega) _) | (refine Below.drew ?_) | (refine Below.drewN' ?_ _)))) (hb.mono (by first | (simp; done) | (simp; omega) | omega)); obtain ⟨hc_w2, hf_w2⟩ := bcell hb_w2; clear hb) | ((with_reducible refine (HPl.out _).mono ?_); rintro e w3 ⟨rfl, hb⟩; have hz_w3 := hb.size; (try simp only [World.size_alloc, World.size_setCell, World.size_drew, size_drewN'] at hz_w3); have hb_w3 : Below w.heap.size w w3 := Below.trans (by exact (by repeat (first | exact Below.refl _ _ | assumption | (refine Below.setCell ?_ (by first | (simp; done) | (simp; omega) | omega) _) | (refine Below.alloc ?_ (by first | (simp; done) | (simp; omega) | omega) _) | (refine Below.drew ?_) | (refine Below.drewN' ?_ _)))) (hb.mono (by first | (simp; done) | (simp; omega) | omega)); obtain ⟨hc_w3, hf_w3⟩ := bcell hb_w3; clear hb) | ((with_reducible refine (awake08_any).mono ?_); rintro e w4 ⟨rfl, hb⟩; have hz_w4 := hb.size; (try simp only [World.size_alloc, World.size_setCell, World.size_drew, size_drewN'] at hz_w4); have hb_w4 : Below w.heap.size w w4 := Below.trans (by exact (by repeat (first | exact Below.refl _ _ | assumption | (refine Below.setCell ?_ (by first | (simp; done) | (simp; omega) | omega) _) | (refine Below.alloc ?_ (by first | (simp; done) | (simp; omega) | omega) _) | (refine Below.drew ?_) | (refine Below.drewN' ?_ _)))) (hb.mono (by first | (simp; done) | (simp; omega) | omega)); obtain ⟨hc_w4, hf_w4⟩ := bcell hb_w4; clear hb))
        go_ret
        exact ⟨rfl, (by repeat (first | exact Below.refl _ _ | assumption | (refine Below.setCell ?_ (by first | (simp; done) | (simp; omega) | omega) _) | (refine Below.alloc ?_ (by first | (simp; done) | (simp; omega) | omega) _) | (refine Below.drew ?_) | (refine Below.drewN' ?_ _)))⟩
      | true =>
        have HPl : Hid (∀ W, Below w.heap.size w W → Calls Try.prog 32 #[I cap, I dep, v] W fun e w' => ∃ tb, e = .returned (.pointer (some ⟨tb, 0, none⟩)) ∧ Sat tb (fun _ => False) W ((DT.new cap dep).play anew (l.map CN.call)) w') := fun W hb =>
          played_ok (h.keep fun b hb1 => hb.block b (hR b hb1)) (fun b hb1 => Nat.lt_of_lt_of_le (hR b hb1) hb.size) hlt hn hok
        have HG : Hid (∀ (wr : World), Below w.heap.size w wr → ∀ j (hj : j < more.length), ∃ b off, A' = some ⟨b, off, none⟩ ∧ R' b ∧ (∀ q, q < 10 → wr.cell? ⟨b, off + j * 10 + q, none⟩ = (more[j]).cells[q]?)) := by
          intro wr hb j hj
          obtain ⟨b, off, c', hv2, hRb, hc⟩ := (h'.keep fun b hb1 => hb.block b (hR' b hb1)).get hj
          rw [hv'] at hv2
          injection hv2 with e1 _ _
          exact ⟨b, off, e1, hRb, hc⟩
        have HH := Lib.hid (And.intro h' (And.intro hR' hlt'))
        subst hv hv'
        clear h hhe hlt0 hlt hok h' hhm hlt0' hlt' hR'
        obtain ⟨n', hnn⟩ : ∃ n', n' = more.length := ⟨_, rfl⟩
        rw [← hnn] at hcap' hn' HHm ⊢
        have HN := Lib.hid hnn
        clear hnn
        generalize (DT.new cap dep).play anew (l.map CN.call) = T at *
        generalize l.length = n at *
        go_enter Try.func6, Try.ntmps6
        go_upto_region 6 with (first | ((with_reducible refine (HHe.out).mono ?_); rintro e w1 ⟨rfl, hb⟩; have hz_w1 := hb.size; (try simp only [World.size_alloc, World.size_setCell, World.size_drew, size_drewN'] at hz_w1); have hb_w1 : Below w.heap.size w w1 := Below.trans (by exact (by repeat (first | exact Below.refl _ _ | assumption | (refine Below.setCell ?_ (by first | (simp; done) | (simp; omega) | omega) _) | (refine Below.alloc ?_ (by first | (simp; done) | (simp; omega) | omega) _) | (refine Below.drew ?_) | (refine Below.drewN' ?_ _)))) (hb.mono (by first | (simp; done) | (simp; omega) | omega)); obtain ⟨hc_w1, hf_w1⟩ := bcell hb_w1; clear hb) | ((with_reducible refine (HHm.out _ (by repeat (first | exact Below.refl _ _ | assumption | (refine Below.setCell ?_ (by first | (simp; done) | (simp; omega) | omega) _) | (refine Below.alloc ?_ (by first | (simp; done) | (simp; omega) | omega) _) | (refine Below.drew ?_) | (refine Below.drewN' ?_ _)))).mono ?_); rintro e w2 ⟨rfl, hb⟩; have hz_w2 := hb.size; (try simp only [World.size_alloc, World.size_setCell, World.size_drew, size_drewN'] at hz_w2); have hb_w2 : Below w.heap.size w w2 := Below.trans (by exact (by repeat (first | exact Below.refl _ _ | assumption | (refine Below.setCell ?_ (by first | (simp; done) | (simp; omega) | omega) _) | (refine Below.alloc ?_ (by first | (simp; done) | (simp; omega) | omega) _) | (refine Below.drew ?_) | (refine Below.drewN' ?_ _)))) (hb.mono (by first | (simp; done) | (simp; omega) | omega)); obtain ⟨hc_w2, hf_w2⟩ := bcell hb_w2; clear hb) | ((with_reducible refine (HPl.out _ (by repeat (first | exact Below.refl _ _ | assumption | (refine Below.setCell ?_ (by first | (simp; done) | (simp; omega) | omega) _) | (refine Below.alloc ?_ (by first | (simp; done) | (simp; omega) | omega) _) | (refine Below.drew ?_) | (refine Below.drewN' ?_ _)))).mono ?_); rintro e wP ⟨tb, rfl, hs⟩; have hb_wP : Below w.heap.size w wP := Below.trans (by exact (by repeat (first | exact Below.refl _ _ | assumption | (refine Below.setCell ?_ (by first | (simp; done) | (simp; omega) | omega) _) | (refine Below.alloc ?_ (by first | (simp; done) | (simp; omega) | omega) _) | (refine Below.drew ?_) | (refine Below.drewN' ?_ _)))) (hs.old.mono (by first | (simp; done) | (simp; omega) | omega)); have K := Lib.hid hs; clear hs))
        have hzP := hb_wP.size
        have htl := K.out.lt
        obtain ⟨S1, hS1, hS2, hS3, -⟩ := K.out.split
        have HS1 := Lib.hid hS1
        have HSt2 := Lib.hid hS2
        have HLift := Lib.hid hS3
        have Hsm := Lib.hid (K.out.wf.plain_small K.out.ab 0)
        have HP0 := Lib.hid (fun (W : World) (hb : Below wP.heap.size wP W) => (K.out.keep hb).plain 0)
        have HCn := Lib.hid (fun (W : World) (hb : Below wP.heap.size wP W) => (K.out.keep hb).count)
        clear hS1 hS2 hS3
        generalize hn0 : T.plain 0 = n0 at *
        have Hn0 := Lib.hid hn0
        clear hn0
        go_cut [10, 11] (fun s10 s11 wc => ∃ (B10 : Nat) (Vw : VN), s10 = .pointer (some ⟨B10, 0, none⟩) ∧ s11 = .int .i64 (T.count : Int) ∧ Below wP.heap.size wP wc ∧ ToldV wP.heap.size wc B10 Vw n0)
        case first =>
          go_wp2_with (first
            | ((with_reducible refine (HP0.out _ (by repeat (first | exact Below.refl _ _ | assumption | (refine Below.setCell ?_ (by first | (simp; done) | (simp; omega) | omega) _) | (refine Below.alloc ?_ (by first | (simp; done) | (simp; omega) | omega) _) | (refine Below.drew ?_) | (refine Below.drewN' ?_ _)))).mono ?_); rintro e w2 ⟨⟨t_a, al_a, x_a, av_a, kv_a, ks_a⟩, he, hV1, hV2, hb⟩; dsimp only [VN.agg] at he; subst he; obtain ⟨a5_a, n5_a, c5_a, a6_a, n6_a, c6_a, rfl, rfl⟩ := VN.forms hV2; have hb_w2 : Below w.heap.size w w2 := Below.trans (by exact (by repeat (first | exact Below.refl _ _ | assumption | (refine Below.setCell ?_ (by first | (simp; done) | (simp; omega) | omega) _) | (refine Below.alloc ?_ (by first | (simp; done) | (simp; omega) | omega) _) | (refine Below.drew ?_) | (refine Below.drewN' ?_ _)))) (hb.mono (by first | (simp; done) | (simp; omega) | omega)); have hz_w2 := hb_w2.size; have hbP_w2 : Below wP.heap.size wP w2 := Below.trans (by exact (by repeat (first | exact Below.refl _ _ | assumption | (refine Below.setCell ?_ (by first | (simp; done) | (simp; omega) | omega) _) | (refine Below.alloc ?_ (by first | (simp; done) | (simp; omega) | omega) _) | (refine Below.drew ?_) | (refine Below.drewN' ?_ _)))) (hb.mono (by first | (simp; done) | (simp; omega) | omega)); have hzP_w2 := hbP_w2.size; have HVa := Lib.hid (And.intro hV1 (And.intro hV2 hb)); clear hV1 hV2 hb)
            | ((with_reducible refine (HCn.out _ (by repeat (first | exact Below.refl _ _ | assumption | (refine Below.setCell ?_ (by first | (simp; done) | (simp; omega) | omega) _) | (refine Below.alloc ?_ (by first | (simp; done) | (simp; omega) | omega) _) | (refine Below.drew ?_) | (refine Below.drewN' ?_ _)))).mono ?_); rintro e w' ⟨rfl, rfl⟩))
          go_meet
          refine ⟨_, .mk t_a al_a x_a (.slice a5_a n5_a c5_a) (.slice a6_a n6_a c6_a) ks_a, rfl, rfl, (by repeat (first | exact Below.refl _ _ | assumption | (refine Below.setCell ?_ (by first | (simp; done) | (simp; omega) | omega) _) | (refine Below.alloc ?_ (by first | (simp; done) | (simp; omega) | omega) _) | (refine Below.drew ?_) | (refine Below.drewN' ?_ _))), ToldV.make HVa.out (by first | (simp; done) | (simp; omega) | omega) (by repeat (first | exact Below.refl _ _ | assumption | (refine Below.setCell ?_ (by first | (simp; done) | (simp; omega) | omega) _) | (refine Below.alloc ?_ (by first | (simp; done) | (simp; omega) | omega) _) | (refine Below.drew ?_) | (refine Below.drewN' ?_ _))) (show At _ _ 41 #[I t_a, .slice a5_a n5_a c5_a, .string x_a, .slice a6_a n6_a c6_a] from (by (repeat' (first | (with_reducible assumption) | (with_reducible refine unhid ?_; with_reducible assumption) | (with_reducible refine At.fresh _ _ _ (by first | (simp; done) | (simp; omega) | omega)) | (with_reducible apply At.set') | (with_reducible apply At.far) | (with_reducible apply At.alloc) | (with_reducible apply At.drew) | (with_reducible apply At.drewN) | exact (rfl : Array.setIfInBounds _ _ _ = _) | (refine Ne.symm ?_; simp; done) | (show _ ≠ _; simp; done) | (show _ ≠ _; simp; omega) | (show _ ≠ _; omega))); (first | done | fail))) (by first | (simp; done) | (simp; omega) | omega)⟩
        case rest =>
          obtain ⟨B10, Vw, rfl, rfl, hbP2, hVw⟩ := hcut
          obtain ⟨W2, rfl⟩ : ∃ W2, W2 = wc := ⟨_, rfl⟩
          have hzP2 := hbP2.size
          have hb_W2 : Below w.heap.size w W2 := hb_wP.trans (hbP2.mono hzP)
          have hz_W2 := hb_W2.size
          have K2 := Lib.hid (HSt2.out W2 hbP2)
          have HVw := Lib.hid hVw
          have HbP2 := Lib.hid hbP2
          have HTw : Hid (∀ W', Only S1 W2 W' → ToldV wP.heap.size W' B10 Vw n0) := fun W' ho => HVw.out.only ho HS1.out
          obtain ⟨tw, alw, xw, w1a, w1b, w1c, w2a, w2b, w2c, ksw, rfl⟩ := VN.kid_open hVw.pv
          have Bw : Hid (∀ W', Only S1 W2 W' → At W' B10 41 #[I tw, .slice w1a w1b w1c, .string xw, .slice w2a w2b w2c]) := fun W' ho => (HTw.out W' ho).box
          have HSw : Hid (∀ W' (U : VN) (Q : Nat → Prop), Only S1 W2 W' → PV W' Q U → (∀ b, Q b → b < W'.heap.size) → U.node = n0 → Calls Try.prog 41 #[U.agg, .agg #[I tw, .slice w1a w1b w1c, .string xw, .slice w2a w2b w2c]] W' (Ret (.bool true) W')) := fun W' U Q ho h1 h2 h3 => (HTw.out W' ho).same h1 h2 h3 Hsm.out.1 Hsm.out.2
          have HCo := Lib.hid K2.out.apart
          clear hVw hbP2
          go_upto_region 8 with ((with_reducible refine HCo.out.mono ?_); rintro e w3 ⟨rfl, hs3⟩; have K3 := Lib.hid hs3; have hb_w3 : Below w.heap.size w w3 := hb_W2.trans (hs3.old.mono hz_W2); have hz_w3 := hb_w3.size; clear hs3)
          go_wp2_with fail
          go_loopw [13, 14] (fun s13 _ wr => ∃ k : Nat, k ≤ n' ∧ s13 = .int .i64 (k : Int) ∧ Hid (∃ T', Sat W2.heap.size (fun _ => False) W2 T' wr)) (fun s13 _ _ => n' - (intOf s13).toNat)
          case atStart => exact ⟨0, Nat.zero_le _, rfl, ⟨_, K3.out⟩⟩
          case round =>
            obtain ⟨k, hk, rfl, hsx⟩ := hrel
            obtain ⟨T', hs⟩ := hsx.out
            clear hsx
            have hold := hs.old
            have hbr : Below w.heap.size w wr := hb_W2.trans (hold.mono hz_W2)
            have hzr := hbr.size
            have hzr2 := hold.size
            by_cases hlt : k < n'
            · have hlt1 : (k : Int) < (n' : Int) := by omega
              have hkl : k < more.length := by have := HN.out; omega
              obtain ⟨b, off, rfl, hRb, q⟩ := HG.out wr hbr k hkl
              have hmem : more[k] ∈ more := List.getElem_mem hkl
              have hAt := HH.out.1.attrs _ hmem
              have hPV := HH.out.1.node _ hmem
              have hLi := HH.out.2.2 _ hmem
              have hR' : ∀ b, R' b → b < w.heap.size := HH.out.2.1
              revert q hAt hPV hLi
              generalize more[k] = C
              intro q hAt hPV hLi
              obtain ⟨cw, ca, cb, cc, cs, cal, cav, cn⟩ := C
              obtain ⟨l1, l2, l3, l4, l5⟩ := hLi
              simp only [CN.call] at l1 l2 l3 l4 l5
              dsimp only at hAt hPV
              obtain ⟨C1, hC1, hC2, hC3, -⟩ := hs.split
              have HC1 := Lib.hid hC1
              have HC2 := Lib.hid hC2
              have HC3 := Lib.hid hC3
              have HIn : Hid (∀ (X : DT) W W', Sat W2.heap.size C1 W X W' → Calls Try.prog 36 #[.pointer (some ⟨W2.heap.size, 0, none⟩), I ca, I cb, I cc] W' fun e w' => ∃ (r : Int) (X' : DT), e = .returned (I r) ∧ Sat W2.heap.size C1 W X' w') := fun X W W' h => (h.insert ca cb cc).mono fun e w' h => ⟨_, _, h⟩
              have HRe : Hid (∀ (X : DT) W W', Sat W2.heap.size C1 W X W' → Calls Try.prog 37 #[.pointer (some ⟨W2.heap.size, 0, none⟩), I ca] W' fun e w' => ∃ (r : Int) (X' : DT), e = .returned (I r) ∧ Sat W2.heap.size C1 W X' w') := fun X W W' h => (h.remove ca).mono fun e w' h => ⟨_, _, h⟩
              have HST : Hid (∀ (X : DT) W W', Sat W2.heap.size C1 W X W' → Calls Try.prog 38 #[.pointer (some ⟨W2.heap.size, 0, none⟩), I ca, .string cs] W' fun e w' => ∃ (r : Int) (X' : DT), e = .returned (I r) ∧ Sat W2.heap.size C1 W X' w') := fun X W W' h => (h.setText ca cs (by omega)).mono fun e w' h => ⟨_, _, h⟩
              have HDr : Hid (∀ (X : DT) W W', Sat W2.heap.size C1 W X W' → Calls Try.prog 40 #[.pointer (some ⟨W2.heap.size, 0, none⟩), I cc] W' fun e w' => ∃ (r : Int) (X' : DT), e = .returned (I r) ∧ Sat W2.heap.size C1 W X' w') := fun X W W' h => (h.drop cc).mono fun e w' h => ⟨_, _, h⟩
              have HSA : Hid (∀ (X : DT) W W', Below wr.heap.size wr W → Sat W2.heap.size C1 W X W' → Calls Try.prog 39 #[.pointer (some ⟨W2.heap.size, 0, none⟩), I ca, cav] W' fun e w' => ∃ (r : Int) (X' : DT), e = .returned (I r) ∧ Sat W2.heap.size C1 W X' w') := fun X W W' hb h => (h.setAttrs ca (m := cal.length) ((hAt.keep fun b hb1 => (hb_W2.trans ((hC3 W X W' hb h).old.mono hz_W2)).block b (hR' b hb1)).reads) l2).mono fun e w' h => ⟨_, _, h⟩
              clear hC1 hC2 hC3
              obtain ⟨aA, aC, hav, ha1, ha2, -⟩ := hAt.form
              obtain ⟨kt, kal, kx, d1, d2, d3, d4, d5, d6, kks, hcn⟩ := VN.kid_open hPV
              clear hPV
              subst hcn
              subst hav
              simp only [CN.cells, VN.cells, VN.agg, List.cons_append, List.nil_append] at q
              have q0 := q 0 (by omega)
              have q1 := q 1 (by omega)
              have q2 := q 2 (by omega)
              have q3 := q 3 (by omega)
              have q4 := q 4 (by omega)
              have q5 := q 5 (by omega)
              have q6 := q 6 (by omega)
              have q7 := q 7 (by omega)
              have q8 := q 8 (by omega)
              have q9 := q 9 (by omega)
              simp at q0 q1 q2 q3 q4 q5 q6 q7 q8 q9
              have HS := Lib.hid hs
              clear q hs hold hmem hAt l1 l2 l3 l4 l5 hR' hRb
              generalize cal.length = am at *
              go_upto_region 12 with fail
              have kW : At (wr.alloc (.cells #[I cw, I ca, I cb, I cc, .string cs, .slice aA am aC, I kt, .slice d1 d2 d3, .string kx, .slice d4 d5 d6] 46)) wr.heap.size 46 #[I cw, I ca, I cb, I cc, .string cs, .slice aA am aC, I kt, .slice d1 d2 d3, .string kx, .slice d4 d5 d6] := At.fresh _ _ _ rfl
              have hbW : Below wr.heap.size wr (wr.alloc (.cells #[I cw, I ca, I cb, I cc, .string cs, .slice aA am aC, I kt, .slice d1 d2 d3, .string kx, .slice d4 d5 d6] 46)) := (Below.refl _ _).alloc (Nat.le_refl _) _
              generalize (wr.alloc (.cells #[I cw, I ca, I cb, I cc, .string cs, .slice aA am aC, I kt, .slice d1 d2 d3, .string kx, .slice d4 d5 d6] 46)) = W at kW hbW ⊢
              have kWc := kW.cell
              have kWl := kW.lt
              have HkW := Lib.hid kW
              have HBW := Lib.hid hbW
              have K0 := Lib.hid (HC2.out W hbW)
              clear kW hbW
              go_wp2_with (first
                | ((with_reducible refine (HIn.out _ _ _ K0.out).mono ?_); rintro e w4 ⟨r4, X4, rfl, hs4⟩; have K4 := Lib.hid hs4; have kW4 : At w4 wr.heap.size 46 #[I cw, I ca, I cb, I cc, .string cs, .slice aA am aC, I kt, .slice d1 d2 d3, .string kx, .slice d4 d5 d6] := (hs4.mut_.2.block _ HkW.out.lt (fun hx => by have := HC1.out _ hx; omega)).trans HkW.out; have kW4c := kW4.cell; clear hs4 kW4)
                | ((with_reducible refine (HRe.out _ _ _ K4.out).mono ?_); rintro e w5 ⟨r5, X5, rfl, hs5⟩; have K5 := Lib.hid hs5; have kW5 : At w5 wr.heap.size 46 #[I cw, I ca, I cb, I cc, .string cs, .slice aA am aC, I kt, .slice d1 d2 d3, .string kx, .slice d4 d5 d6] := (hs5.mut_.2.block _ HkW.out.lt (fun hx => by have := HC1.out _ hx; omega)).trans HkW.out; have kW5c := kW5.cell; clear hs5 kW5)
                | ((with_reducible refine (HST.out _ _ _ K5.out).mono ?_); rintro e w6 ⟨r6, X6, rfl, hs6⟩; have K6 := Lib.hid hs6; have kW6 : At w6 wr.heap.size 46 #[I cw, I ca, I cb, I cc, .string cs, .slice aA am aC, I kt, .slice d1 d2 d3, .string kx, .slice d4 d5 d6] := (hs6.mut_.2.block _ HkW.out.lt (fun hx => by have := HC1.out _ hx; omega)).trans HkW.out; have kW6c := kW6.cell; clear hs6 kW6)
                | ((with_reducible refine (HSA.out _ _ _ HBW.out K6.out).mono ?_); rintro e w7 ⟨r7, X7, rfl, hs7⟩; have K7 := Lib.hid hs7; have kW7 : At w7 wr.heap.size 46 #[I cw, I ca, I cb, I cc, .string cs, .slice aA am aC, I kt, .slice d1 d2 d3, .string kx, .slice d4 d5 d6] := (hs7.mut_.2.block _ HkW.out.lt (fun hx => by have := HC1.out _ hx; omega)).trans HkW.out; have kW7c := kW7.cell; clear hs7 kW7)
                | ((with_reducible refine (HDr.out _ _ _ K7.out).mono ?_); rintro e w8 ⟨r8, X8, rfl, hs8⟩; have K8 := Lib.hid hs8; have kW8 : At w8 wr.heap.size 46 #[I cw, I ca, I cb, I cc, .string cs, .slice aA am aC, I kt, .slice d1 d2 d3, .string kx, .slice d4 d5 d6] := (hs8.mut_.2.block _ HkW.out.lt (fun hx => by have := HC1.out _ hx; omega)).trans HkW.out; have kW8c := kW8.cell; clear hs8 kW8))
              exact ⟨⟨k + 1, by omega, by go_num, ⟨_, HC3.out _ _ _ HBW.out K8.out⟩⟩, by simp [intOf]; omega⟩
            · have hkn : k = n' := by omega
              subst hkn
              have KT : Hid (Sat tb S1 W2 T wr) := K2.out.keep hold
              have HP0b : Hid (∀ W, Below wr.heap.size wr W → Calls Try.prog 33 #[.pointer (some ⟨tb, 0, none⟩), I 0] W (PlainRet n0 W)) := fun W hb => by
                have := (KT.out.keep hb).plain 0; rwa [Hn0.out] at this
              have HCb : Hid (∀ W, Below wr.heap.size wr W → Calls Try.prog 34 #[.pointer (some ⟨tb, 0, none⟩)] W fun e w' => e = .returned (I (T.count : Int)) ∧ W = w') := fun W hb => (KT.out.keep hb).count
              generalize T.count = ct at *
              obtain ⟨w4, rfl⟩ : ∃ w4, w4 = wr := ⟨_, rfl⟩
              have b10 := Bw.out w4 KT.out.mut_.2
              have b10c := b10.cell
              have b10l := b10.lt
              have b10h := Lib.hid b10
              have Hold := Lib.hid hold
              clear b10 hs hold
              go_upto_region 17 with fail
              go_cut [84] (fun s84 wc => s84 = .bool false ∧ Sat tb S1 W2 T wc)
              case first =>
                go_region_with (first
                  | ((with_reducible refine (HP0b.out _ (by repeat (first | exact Below.refl _ _ | assumption | (refine Below.setCell ?_ (by first | (simp; done) | (simp; omega) | omega) _) | (refine Below.alloc ?_ (by first | (simp; done) | (simp; omega) | omega) _) | (refine Below.drew ?_) | (refine Below.drewN' ?_ _)))).mono ?_); rintro e w5 ⟨⟨t_c, al_c, x_c, av_c, kv_c, ks_c⟩, he, hV1, hV2, hb⟩; dsimp only [VN.agg] at he; subst he; obtain ⟨a5_c, n5_c, c5_c, a6_c, n6_c, c6_c, rfl, rfl⟩ := VN.forms hV2; have hb_w5 : Below w4.heap.size w4 w5 := Below.trans (by exact (by repeat (first | exact Below.refl _ _ | assumption | (refine Below.setCell ?_ (by first | (simp; done) | (simp; omega) | omega) _) | (refine Below.alloc ?_ (by first | (simp; done) | (simp; omega) | omega) _) | (refine Below.drew ?_) | (refine Below.drewN' ?_ _)))) (hb.mono (by first | (simp; done) | (simp; omega) | omega)); have hz_w5 := hb_w5.size; have k10 := b10h.out.keep hb_w5; have k10d := k10.cell; have HS5 := Lib.hid (fun (W : World) (hbW : Below w5.heap.size w5 W) => HSw.out W _ _ ((KT.out.keep (hb_w5.trans (hbW.mono hb_w5.size))).mut_.2) (hV2.keepB hbW fun b hb1 => hb1.2) (fun b hb1 => Nat.lt_of_lt_of_le hb1.2 hbW.size) hV1); dsimp only [VN.agg] at HS5; clear hV1 hV2 hb k10)
                  | ((with_reducible refine (HS5.out _ (by repeat (first | exact Below.refl _ _ | assumption | (refine Below.setCell ?_ (by first | (simp; done) | (simp; omega) | omega) _) | (refine Below.alloc ?_ (by first | (simp; done) | (simp; omega) | omega) _) | (refine Below.drew ?_) | (refine Below.drewN' ?_ _)))).mono ?_); rintro e w6 ⟨rfl, hb⟩; have hz_w6 := hb.size; (try simp only [World.size_alloc, World.size_setCell, World.size_drew, size_drewN'] at hz_w6); have hb_w6 : Below w4.heap.size w4 w6 := Below.trans (by exact (by repeat (first | exact Below.refl _ _ | assumption | (refine Below.setCell ?_ (by first | (simp; done) | (simp; omega) | omega) _) | (refine Below.alloc ?_ (by first | (simp; done) | (simp; omega) | omega) _) | (refine Below.drew ?_) | (refine Below.drewN' ?_ _)))) (hb.mono (by first | (simp; done) | (simp; omega) | omega)); obtain ⟨hc_w6, hf_w6⟩ := bcell hb_w6; clear hb)
                  | ((with_reducible refine (HCb.out _ (by repeat (first | exact Below.refl _ _ | assumption | (refine Below.setCell ?_ (by first | (simp; done) | (simp; omega) | omega) _) | (refine Below.alloc ?_ (by first | (simp; done) | (simp; omega) | omega) _) | (refine Below.drew ?_) | (refine Below.drewN' ?_ _)))).mono ?_); rintro e w' ⟨rfl, rfl⟩))
                all_goals
                  go_wp2_with fail
                  go_meet
                  exact ⟨rfl, KT.out.keep hb_w6⟩
              case rest =>
                obtain ⟨rfl, hs7⟩ := hcut
                obtain ⟨w7, rfl⟩ : ∃ w7, w7 = wc := ⟨_, rfl⟩
                have K7 := Lib.hid hs7
                clear hs7
                go_wp2_with fail
                go_loopw [15] (fun s15 wr => ∃ i : Nat, i ≤ 100 ∧ s15 = .int .i64 (i : Int) ∧ Hid (∃ X : DT, X.plain 0 = n0 ∧ Sat tb S1 W2 X wr)) (fun s15 _ => 100 - (intOf s15).toNat)
                case atStart => exact ⟨1, by omega, rfl, ⟨_, Hn0.out, K7.out⟩⟩
                case round =>
                  obtain ⟨i, hi, rfl, hx⟩ := hrel
                  obtain ⟨X, hX0, hs⟩ := hx.out
                  have hzr := hs.size
                  have hbr : Below w.heap.size w wr := Below.trans (by exact (by repeat (first | exact Below.refl _ _ | assumption | (refine Below.setCell ?_ (by first | (simp; done) | (simp; omega) | omega) _) | (refine Below.alloc ?_ (by first | (simp; done) | (simp; omega) | omega) _) | (refine Below.drew ?_) | (refine Below.drewN' ?_ _)))) ((HLift.out _ _ _ HbP2.out hs).old.mono (by first | (simp; done) | (simp; omega) | omega))
                  have HsX := Lib.hid hs
                  by_cases hlt : i < 100
                  · have hlt1 : (i : Int) < 100 := by omega
                    have H1 : Hid (∀ W, Below wr.heap.size wr W → Calls Try.prog 42 #[.pointer (some ⟨tb, 0, none⟩), I (i : Int)] W fun e w' => e = .returned (.bool (X.has (i : Int))) ∧ W = w') := fun W hb => (hs.keep hb).has (i : Int)
                    have H2 : Hid (∀ W, Below wr.heap.size wr W → Calls Try.prog 43 #[.pointer (some ⟨tb, 0, none⟩), I (i : Int)] W fun e w' => e = .returned (.bool (X.live (i : Int))) ∧ W = w') := fun W hb => (hs.keep hb).live (i : Int)
                    have HTx : Hid (Calls Try.prog 38 #[.pointer (some ⟨tb, 0, none⟩), I (i : Int), .string ⟨#[116, 117, 114, 110, 101, 100]⟩] wr fun e w' => ∃ r : Int, e = .returned (I r) ∧ Sat tb S1 W2 (X.setText (i : Int) (anew ⟨#[116, 117, 114, 110, 101, 100]⟩)).2 w') := (hs.setText (i : Int) ⟨#[116, 117, 114, 110, 101, 100]⟩ (by decide)).mono fun e w' h => ⟨_, h⟩
                    have HTa : Hid (∀ (Y : DT) W (B : Nat), Sat tb S1 W2 Y W → At W B 55 #[.string ⟨#[116, 117, 114, 110, 101, 100]⟩, .string ⟨#[]⟩] → Calls Try.prog 39 #[.pointer (some ⟨tb, 0, none⟩), I (i : Int), .slice (some ⟨B, 0, none⟩) 1 1] W fun e w' => ∃ r : Int, e = .returned (I r) ∧ Sat tb S1 W2 (Y.setAttrs (i : Int) [(⟨#[116, 117, 114, 110, 101, 100]⟩, ⟨#[]⟩)]).2 w') := fun Y W B h hA => (h.setAttrs (i : Int) (m := 1) ⟨rfl, .inr ⟨_, 1, rfl, fun j u hu => by
                      have hj : j < 2 := (List.getElem?_eq_some_iff.1 hu).1
                      have : (⟨B, 0, none⟩ : Addr).add j = ⟨B, j, none⟩ := by
                        unfold Addr.add
                        by_cases h0 : j = 0 <;> simp [h0]
                      rw [this, hA.cell j]
                      rcases (by omega : j = 0 ∨ j = 1) with rfl | rfl <;> exact hu⟩⟩ (by omega)).mono fun e w' h => ⟨_, h⟩
                    have HTg : Hid (∀ (Y : DT) W, Sat tb S1 W2 Y W → Calls Try.prog 44 #[.pointer (some ⟨tb, 0, none⟩), I (i : Int), I 14] W fun e w' => ∃ r : Int, e = .returned (I r) ∧ Sat tb S1 W2 (Y.setTag (i : Int) 14).2 w') := fun Y W h => (h.setTag (i : Int) 14).mono fun e w' h => ⟨_, h⟩
                    have HRm : Hid (∀ (Y : DT) W, Sat tb S1 W2 Y W → Calls Try.prog 37 #[.pointer (some ⟨tb, 0, none⟩), I (i : Int)] W fun e w' => ∃ r : Int, e = .returned (I r) ∧ Sat tb S1 W2 (Y.remove (i : Int)).2 w') := fun Y W h => (h.remove (i : Int)).mono fun e w' h => ⟨_, h⟩
                    have Hii := Lib.hid (show (i : Int) + 1 = ((i + 1 : Nat) : Int) by omega)
                    have hwf := hs.wf
                    cases hh : X.has (i : Int) <;> cases hl : X.live (i : Int)
                    all_goals
                      rw [hh] at H1
                      rw [hl] at H2
                      have Hl := Lib.hid hl
                      clear hh hl hs hx
                      go_wp2_with (first
                        | ((with_reducible refine (H1.out _ (by repeat (first | exact Below.refl _ _ | assumption | (refine Below.setCell ?_ (by first | (simp; done) | (simp; omega) | omega) _) | (refine Below.alloc ?_ (by first | (simp; done) | (simp; omega) | omega) _) | (refine Below.drew ?_) | (refine Below.drewN' ?_ _)))).mono ?_); rintro e w' ⟨rfl, rfl⟩)
                        | ((with_reducible refine (H2.out _ (by repeat (first | exact Below.refl _ _ | assumption | (refine Below.setCell ?_ (by first | (simp; done) | (simp; omega) | omega) _) | (refine Below.alloc ?_ (by first | (simp; done) | (simp; omega) | omega) _) | (refine Below.drew ?_) | (refine Below.drewN' ?_ _)))).mono ?_); rintro e w' ⟨rfl, rfl⟩)
                        | ((with_reducible refine HTx.out.mono ?_); rintro e w8 ⟨r8, rfl, hs8⟩; have K8 := Lib.hid hs8; have hz8 := hs8.size; clear hs8)
                        | ((with_reducible refine (HTa.out _ _ _ (K8.out.keep ((Below.refl _ _).alloc (Nat.le_refl _) _)) (At.fresh _ _ _ rfl)).mono ?_); rintro e w9 ⟨r9, rfl, hs9⟩; have K9 := Lib.hid hs9; have hz9 := hs9.size; clear hs9)
                        | ((with_reducible refine (HTg.out _ _ K9.out).mono ?_); rintro e w10 ⟨r10, rfl, hs10⟩; have K10 := Lib.hid hs10; clear hs10)
                        | ((with_reducible refine (HRm.out _ _ K10.out).mono ?_); rintro e w11 ⟨r11, rfl, hs11⟩; have K11 := Lib.hid hs11; clear hs11))
                      first
                        | exact ⟨⟨i + 1, by omega, by rw [← Hii.out], ⟨X, hX0, HsX.out⟩⟩, by simp [intOf]; omega⟩
                        | (refine ⟨⟨i + 1, by omega, by rw [← Hii.out], ⟨_, ?_, K11.out⟩⟩, by simp [intOf]; omega⟩
                           have e1 := hwf.setText_apart Hl.out (anew ⟨#[116, 117, 114, 110, 101, 100]⟩)
                           have l1 := (DT.setText_live (T := X) (i : Int) (anew ⟨#[116, 117, 114, 110, 101, 100]⟩) (i : Int)).trans Hl.out
                           have e2 := K8.out.wf.setAttrs_apart l1 [(⟨#[116, 117, 114, 110, 101, 100]⟩, ⟨#[]⟩)]
                           have l2 := (DT.setAttrs_live (T := (X.setText (i : Int) (anew ⟨#[116, 117, 114, 110, 101, 100]⟩)).2) (i : Int) [(⟨#[116, 117, 114, 110, 101, 100]⟩, ⟨#[]⟩)] (i : Int)).trans l1
                           have e3 := K9.out.wf.setTag_apart l2 14
                           have l3 := (DT.setTag_live (i : Int) 14 (i : Int)).trans l2
                           have e4 := K10.out.wf.remove_apart l3
                           exact e4.trans (e3.trans (e2.trans (e1.trans hX0))))
                  · have hie : decide ((i : Int) < 100) = false := by simp; omega
                    have HP0e : Hid (∀ W, Below wr.heap.size wr W → Calls Try.prog 33 #[.pointer (some ⟨tb, 0, none⟩), I 0] W (PlainRet n0 W)) := fun W hb => by
                      have := (hs.keep hb).plain 0; rwa [hX0] at this
                    obtain ⟨w12, rfl⟩ : ∃ w12, w12 = wr := ⟨_, rfl⟩
                    have hz12 := hbr.size
                    have b10 := Bw.out w12 hs.mut_.2
                    have b10c := b10.cell
                    have b10l := b10.lt
                    have b10h := Lib.hid b10
                    have HBr := Lib.hid hbr
                    clear b10 hs hx hX0 hlt
                    go_upto_region 27 with fail
                    go_cut [8] (fun s8 wc => s8 = .bool true ∧ Below w.heap.size w wc)
                    case first =>
                      go_region_with (first
                        | ((with_reducible refine (HP0e.out _ (by repeat (first | exact Below.refl _ _ | assumption | (refine Below.setCell ?_ (by first | (simp; done) | (simp; omega) | omega) _) | (refine Below.alloc ?_ (by first | (simp; done) | (simp; omega) | omega) _) | (refine Below.drew ?_) | (refine Below.drewN' ?_ _)))).mono ?_); rintro e w13 ⟨⟨t_d, al_d, x_d, av_d, kv_d, ks_d⟩, he, hV1, hV2, hb⟩; dsimp only [VN.agg] at he; subst he; obtain ⟨a5_d, n5_d, c5_d, a6_d, n6_d, c6_d, rfl, rfl⟩ := VN.forms hV2; have hb_w13 : Below w12.heap.size w12 w13 := Below.trans (by exact (by repeat (first | exact Below.refl _ _ | assumption | (refine Below.setCell ?_ (by first | (simp; done) | (simp; omega) | omega) _) | (refine Below.alloc ?_ (by first | (simp; done) | (simp; omega) | omega) _) | (refine Below.drew ?_) | (refine Below.drewN' ?_ _)))) (hb.mono (by first | (simp; done) | (simp; omega) | omega)); have hz_w13 := hb_w13.size; have k10 := b10h.out.keep hb_w13; have k10d := k10.cell; have HS13 := Lib.hid (fun (W : World) (hbW : Below w13.heap.size w13 W) => HSw.out W _ _ ((HsX.out.keep (hb_w13.trans (hbW.mono hb_w13.size))).mut_.2) (hV2.keepB hbW fun b hb1 => hb1.2) (fun b hb1 => Nat.lt_of_lt_of_le hb1.2 hbW.size) hV1); dsimp only [VN.agg] at HS13; clear hV1 hV2 hb k10)
                        | ((with_reducible refine (HS13.out _ (by repeat (first | exact Below.refl _ _ | assumption | (refine Below.setCell ?_ (by first | (simp; done) | (simp; omega) | omega) _) | (refine Below.alloc ?_ (by first | (simp; done) | (simp; omega) | omega) _) | (refine Below.drew ?_) | (refine Below.drewN' ?_ _)))).mono ?_); rintro e w14 ⟨rfl, hb⟩; have hz_w14 := hb.size; (try simp only [World.size_alloc, World.size_setCell, World.size_drew, size_drewN'] at hz_w14); have hb_w14 : Below w12.heap.size w12 w14 := Below.trans (by exact (by repeat (first | exact Below.refl _ _ | assumption | (refine Below.setCell ?_ (by first | (simp; done) | (simp; omega) | omega) _) | (refine Below.alloc ?_ (by first | (simp; done) | (simp; omega) | omega) _) | (refine Below.drew ?_) | (refine Below.drewN' ?_ _)))) (hb.mono (by first | (simp; done) | (simp; omega) | omega)); obtain ⟨hc_w14, hf_w14⟩ := bcell hb_w14; clear hb)
                        | ((with_reducible refine (awake08_any).mono ?_); rintro e w15 ⟨rfl, hb⟩; have hz_w15 := hb.size; (try simp only [World.size_alloc, World.size_setCell, World.size_drew, size_drewN'] at hz_w15); have hb_w15 : Below w12.heap.size w12 w15 := Below.trans (by exact (by repeat (first | exact Below.refl _ _ | assumption | (refine Below.setCell ?_ (by first | (simp; done) | (simp; omega) | omega) _) | (refine Below.alloc ?_ (by first | (simp; done) | (simp; omega) | omega) _) | (refine Below.drew ?_) | (refine Below.drewN' ?_ _)))) (hb.mono (by first | (simp; done) | (simp; omega) | omega)); obtain ⟨hc_w15, hf_w15⟩ := bcell hb_w15; clear hb))
                      all_goals
                        go_wp2_with fail
                        go_meet
                        exact ⟨rfl, HBr.out.trans (hb_w15.mono hz12)⟩
                    case rest =>
                      obtain ⟨rfl, hbF⟩ := hcut
                      go_wp2_with fail
                      go_ret
                      exact ⟨rfl, hbF⟩
end Go.Proofs.Ytnnjlpkjpbbklaa
