/-
  OrderGoes walked: it returns true. Conditions: the calls lie in memory.
-/
import Derived.Test.YtnnjlpkjpbbklaaOrdC
import Derived.Test.YtnnjlpkjpbbklaaLaw09
set_option linter.unusedVariables false
set_option linter.unusedSimpArgs false
namespace Go.Proofs.Ytnnjlpkjpbbklaa
open Go.RowKit

set_option maxRecDepth 100000 in
set_option maxHeartbeats 4000000 in
theorem orderGoes_any {w : World} {R : Nat → Prop} {v : Value} {l : List CN} (h : CallsAt w R v l) (hR : ∀ b, R b → b < w.heap.size) (cap dep rt : Int) :
    Calls Try.prog 17 #[I cap, I dep, v, I rt] w (Ret (.bool true) w) := by
  obtain ⟨A, vcap, hv, hcap, hmx, -⟩ := h.row.form
  cases hok : isTree l cap dep with
  | false =>
    have HT : Hid (∀ W, Below w.heap.size w W → Calls Try.prog 80 #[I cap, I dep, v] W (Ret (.pointer none) W)) := fun W hb => tree09_no (h.keep fun b hb1 => hb.block b (hR b hb1)) (fun b hb1 => Nat.lt_of_lt_of_le (hR b hb1) hb.size) hok
    subst hv
    clear h hok
    generalize l.length = n at *
    go_enter Try.func17, Try.ntmps17
    go_wp2_with (first | ((with_reducible refine (HT.out _ (by repeat (first | exact Below.refl _ _ | assumption | (refine Below.setCell ?_ (by first | (simp; done) | (simp; omega) | omega) _) | (refine Below.alloc ?_ (by first | (simp; done) | (simp; omega) | omega) _) | (refine Below.drew ?_) | (refine Below.drewN' ?_ _)))).mono ?_); rintro e w1 ⟨rfl, hb⟩; have hz_w1 := hb.size; (try simp only [World.size_alloc, World.size_setCell, World.size_drew, size_drewN'] at hz_w1); have hb_w1 : Below w.heap.size w w1 := Below.trans (by exact (by repeat (first | exact Below.refl _ _ | assumption | (refine Below.setCell ?_ (by first | (simp; done) | (simp; omega) | omega) _) | (refine Below.alloc ?_ (by first | (simp; done) | (simp; omega) | omega) _) | (refine Below.drew ?_) | (refine Below.drewN' ?_ _)))) (hb.mono (by first | (simp; done) | (simp; omega) | omega)); obtain ⟨hc_w1, hf_w1⟩ := bcell hb_w1; clear hb) | ((with_reducible refine (awake09_any).mono ?_); rintro e w2 ⟨rfl, hb⟩; have hz_w2 := hb.size; (try simp only [World.size_alloc, World.size_setCell, World.size_drew, size_drewN'] at hz_w2); have hb_w2 : Below w.heap.size w w2 := Below.trans (by exact (by repeat (first | exact Below.refl _ _ | assumption | (refine Below.setCell ?_ (by first | (simp; done) | (simp; omega) | omega) _) | (refine Below.alloc ?_ (by first | (simp; done) | (simp; omega) | omega) _) | (refine Below.drew ?_) | (refine Below.drewN' ?_ _)))) (hb.mono (by first | (simp; done) | (simp; omega) | omega)); obtain ⟨hc_w2, hf_w2⟩ := bcell hb_w2; clear hb))
    go_ret
    exact ⟨rfl, (by repeat (first | exact Below.refl _ _ | assumption | (refine Below.setCell ?_ (by first | (simp; done) | (simp; omega) | omega) _) | (refine Below.alloc ?_ (by first | (simp; done) | (simp; omega) | omega) _) | (refine Below.drew ?_) | (refine Below.drewN' ?_ _)))⟩
  | true =>
    have HT : Hid (∀ W, Below w.heap.size w W → Calls Try.prog 80 #[I cap, I dep, v] W fun e w' => ∃ tb, e = .returned (.pointer (some ⟨tb, 0, none⟩)) ∧ Sat tb (fun _ => False) W ((DT.new cap dep).play anew (l.map CN.call)) w') := fun W hb => tree09_yes (h.keep fun b hb1 => hb.block b (hR b hb1)) (fun b hb1 => Nat.lt_of_lt_of_le (hR b hb1) hb.size) hok
    have hW : ((DT.new cap dep).play anew (l.map CN.call)).WF := isTree_wf hok
    subst hv
    clear h hok
    generalize (DT.new cap dep).play anew (l.map CN.call) = T at *
    generalize l.length = n at *
    have HSat : Hid (∀ tb W W', Sat tb (fun _ => False) W T W' → On (some ⟨tb, 0, none⟩) T W' ∧ Below W.heap.size W W') := fun tb W W' h => ⟨h.on, h.old⟩
    by_cases hh : T.has rt = true
    · obtain ⟨i, nd, rfl, hi⟩ := DT.has_get hh
      cases hu : nd.up with
      | some p =>
        have HH : Hid (∀ q W, On q T W → Calls Try.prog 42 #[.pointer q, I (i : Int)] W (fun e w' => e = .returned (.bool true) ∧ W = w')) := fun q W h => by have := h.has W (Below.refl _ _) (i : Int); rwa [hh] at this
        have HP : Hid (∀ q W, On q T W → Calls Try.prog 49 #[.pointer q, I (i : Int)] W (fun e w' => e = .returned (I (p : Int)) ∧ W = w')) := fun q W h => by have := h.parent W (Below.refl _ _) (i : Int); rwa [DT.upOf_nat hi, hu] at this
        clear hh hi hu hW
        go_enter Try.func17, Try.ntmps17
        go_wp2_with (first
          | ((with_reducible refine (HT.out _ (by repeat (first | exact Below.refl _ _ | assumption | (refine Below.setCell ?_ (by first | (simp; done) | (simp; omega) | omega) _) | (refine Below.alloc ?_ (by first | (simp; done) | (simp; omega) | omega) _) | (refine Below.drew ?_) | (refine Below.drewN' ?_ _)))).mono ?_); rintro e w1 ⟨tb, rfl, hs⟩; obtain ⟨hon, hold⟩ := HSat.out _ _ _ hs; have hb_w1 : Below w.heap.size w w1 := Below.trans (by exact (by repeat (first | exact Below.refl _ _ | assumption | (refine Below.setCell ?_ (by first | (simp; done) | (simp; omega) | omega) _) | (refine Below.alloc ?_ (by first | (simp; done) | (simp; omega) | omega) _) | (refine Below.drew ?_) | (refine Below.drewN' ?_ _)))) (hold.mono (by first | (simp; done) | (simp; omega) | omega)); have hz_w1 := hb_w1.size; have KON := Lib.hid hon; clear hs hon hold)
          | ((with_reducible refine (HH.out _ _ (KON.out.keep (by repeat (first | exact Below.refl _ _ | assumption | (refine Below.setCell ?_ (by first | (simp; done) | (simp; omega) | omega) _) | (refine Below.alloc ?_ (by first | (simp; done) | (simp; omega) | omega) _) | (refine Below.drew ?_) | (refine Below.drewN' ?_ _))))).mono ?_); rintro e w' ⟨rfl, rfl⟩)
          | ((with_reducible refine (HP.out _ _ (KON.out.keep (by repeat (first | exact Below.refl _ _ | assumption | (refine Below.setCell ?_ (by first | (simp; done) | (simp; omega) | omega) _) | (refine Below.alloc ?_ (by first | (simp; done) | (simp; omega) | omega) _) | (refine Below.drew ?_) | (refine Below.drewN' ?_ _))))).mono ?_); rintro e w' ⟨rfl, rfl⟩)
          | ((with_reducible refine (awake09_any).mono ?_); rintro e w2 ⟨rfl, hb⟩; have hz_w2 := hb.size; (try simp only [World.size_alloc, World.size_setCell, World.size_drew, size_drewN'] at hz_w2); have hb_w2 : Below w.heap.size w w2 := Below.trans (by exact (by repeat (first | exact Below.refl _ _ | assumption | (refine Below.setCell ?_ (by first | (simp; done) | (simp; omega) | omega) _) | (refine Below.alloc ?_ (by first | (simp; done) | (simp; omega) | omega) _) | (refine Below.drew ?_) | (refine Below.drewN' ?_ _)))) (hb.mono (by first | (simp; done) | (simp; omega) | omega)); obtain ⟨hc_w2, hf_w2⟩ := bcell hb_w2; clear hb))
        go_ret
        exact ⟨rfl, (by repeat (first | exact Below.refl _ _ | assumption | (refine Below.setCell ?_ (by first | (simp; done) | (simp; omega) | omega) _) | (refine Below.alloc ?_ (by first | (simp; done) | (simp; omega) | omega) _) | (refine Below.drew ?_) | (refine Below.drewN' ?_ _)))⟩
      | none =>
        have HH : Hid (∀ q W, On q T W → Calls Try.prog 42 #[.pointer q, I (i : Int)] W (fun e w' => e = .returned (.bool true) ∧ W = w')) := fun q W h => by have := h.has W (Below.refl _ _) (i : Int); rwa [hh] at this
        have HP : Hid (∀ q W, On q T W → Calls Try.prog 49 #[.pointer q, I (i : Int)] W (fun e w' => e = .returned (I (-1)) ∧ W = w')) := fun q W h => by have := h.parent W (Below.refl _ _) (i : Int); rwa [DT.upOf_nat hi, hu] at this
        have HA : Hid (∀ q W, On q T W → Calls Try.prog 74 #[.pointer q, I (i : Int)] W (KSome (T.all_ i) W)) := fun q W h => by
          have := all09_any h (i : Int)
          rw [DT.all_nat hi] at this
          exact this.mono fun e w' hr => retRow_some hr (fun e => by have := (hW.stand_first hi).2; rw [e] at this; simp at this)
        obtain ⟨e1, e2⟩ := hW.root_ends hi hu
        have HPr : Hid (∀ q W, On q T W → Calls Try.prog 72 #[.pointer q, I (i : Int)] W (Ret (I (-1)) W)) := fun q W h => by
          have := prev_any h (i : Int)
          rw [show T.prev (i : Int) = -1 by unfold DT.prev; rw [hh]; simp [e2, DT.upI]] at this
          exact this
        have hlen := nodup_le _ _ (hW.all_nodup i nd hi) (hW.all_lt hi)
        have hnl := hW.nodes_le
        have hst : Hid (T.standAt i 0 = some i ∧ ∀ k, (T.all_ i).length ≤ k → T.standAt i k = none) := ⟨(hW.stand_first hi).1, fun k hk => (hW.stand_end hk).trans e1⟩
        have HG : Hid (∀ k (hk : k < (T.all_ i).length), T.standAt i k = some (T.all_ i)[k] ∧ (∀ q W, On q T W → Calls Try.prog 78 #[.pointer q, I ((T.all_ i)[k] : Int), I (i : Int)] W (Ret (.bool true) W)) ∧ (∀ q W, On q T W → Calls Try.prog 71 #[.pointer q, I ((T.all_ i)[k] : Int)] W (Ret (I (DT.upI (T.standAt i (k + 1)))) W)) ∧
            (∀ hk1 : k + 1 < (T.all_ i).length, T.standAt i (k + 1) = some (T.all_ i)[k + 1] ∧ (∀ q W, On q T W → Calls Try.prog 72 #[.pointer q, I ((T.all_ i)[k + 1] : Int)] W (Ret (I ((T.all_ i)[k] : Int)) W)) ∧ (∀ q W, On q T W → Calls Try.prog 67 #[.pointer q, .agg #[I ((T.all_ i)[k] : Int), I 0], .agg #[I ((T.all_ i)[k + 1] : Int), I 0]] W (Ret (.tuple #[I (-1), .bool true]) W)))) := by
          intro k hk
          obtain ⟨s1, s2, m, hm⟩ := hW.stand_next hi hk
          obtain ⟨g1, g2, g3⟩ := hW.goes (c := runeLen) hi hu k hk
          refine ⟨s1, fun q W h => ?_, fun q W h => ?_, fun hk1 => ⟨(hW.stand_next hi hk1).1, fun q W h => ?_, fun q W h => ?_⟩⟩
          · have := within09_any h ((T.all_ i)[k] : Int) (i : Int); rwa [g1] at this
          · have := next_any h ((T.all_ i)[k] : Int); rwa [DT.next_nat hm, g2] at this
          · obtain ⟨m2, hm2⟩ := (hW.stand_next hi hk1).2.2
            have := prev_any h ((T.all_ i)[k + 1] : Int)
            rw [show T.prev ((T.all_ i)[k + 1] : Int) = ((T.all_ i)[k] : Int) by unfold DT.prev; rw [DT.has_some hm2]; simp only [if_true, Int.toNat_natCast]; rw [(g3 hk1).1]; rfl] at this
            exact this
          · have := cmp09_any h ((T.all_ i)[k] : Int) 0 ((T.all_ i)[k + 1] : Int) 0
            rwa [(g3 hk1).2] at this
        clear hh hi hu hW e1 e2
        generalize hxs : T.all_ i = xs at *
        clear hxs
        obtain ⟨N, hN⟩ : ∃ N, N = xs.length := ⟨_, rfl⟩
        have HN := Lib.hid hN
        rw [← hN] at hlen
        have hAN : Hid (∀ q W e w', On q T W → KSome xs W e w' → ∃ b cap, e = .returned (.slice (some ⟨b, 0, none⟩) N cap) ∧ cap ≤ maxLen ∧ b < w'.heap.size ∧ (∀ j (h : j < xs.length), w'.cell? ⟨b, j, none⟩ = some (I (xs[j] : Int))) ∧ Below W.heap.size W w') := fun q W e w' _ ⟨b, cap, he, _, h2, _, h4, h5, h6⟩ => ⟨b, cap, by rw [HN.out]; exact he, h2, h4, h5, h6⟩
        clear hN
        go_enter Try.func17, Try.ntmps17
        go_wp2_with (first
          | ((with_reducible refine (HT.out _ (by repeat (first | exact Below.refl _ _ | assumption | (refine Below.setCell ?_ (by first | (simp; done) | (simp; omega) | omega) _) | (refine Below.alloc ?_ (by first | (simp; done) | (simp; omega) | omega) _) | (refine Below.drew ?_) | (refine Below.drewN' ?_ _)))).mono ?_); rintro e w1 ⟨tb, rfl, hs⟩; obtain ⟨hon, hold⟩ := HSat.out _ _ _ hs; have hb_w1 : Below w.heap.size w w1 := Below.trans (by exact (by repeat (first | exact Below.refl _ _ | assumption | (refine Below.setCell ?_ (by first | (simp; done) | (simp; omega) | omega) _) | (refine Below.alloc ?_ (by first | (simp; done) | (simp; omega) | omega) _) | (refine Below.drew ?_) | (refine Below.drewN' ?_ _)))) (hold.mono (by first | (simp; done) | (simp; omega) | omega)); have hz_w1 := hb_w1.size; have KON := Lib.hid hon; clear hs hon hold)
          | ((with_reducible refine (HH.out _ _ (KON.out.keep (by repeat (first | exact Below.refl _ _ | assumption | (refine Below.setCell ?_ (by first | (simp; done) | (simp; omega) | omega) _) | (refine Below.alloc ?_ (by first | (simp; done) | (simp; omega) | omega) _) | (refine Below.drew ?_) | (refine Below.drewN' ?_ _))))).mono ?_); rintro e w' ⟨rfl, rfl⟩)
          | ((with_reducible refine (HP.out _ _ (KON.out.keep (by repeat (first | exact Below.refl _ _ | assumption | (refine Below.setCell ?_ (by first | (simp; done) | (simp; omega) | omega) _) | (refine Below.alloc ?_ (by first | (simp; done) | (simp; omega) | omega) _) | (refine Below.drew ?_) | (refine Below.drewN' ?_ _))))).mono ?_); rintro e w' ⟨rfl, rfl⟩)
          | ((with_reducible refine (HA.out _ _ (KON.out.keep (by repeat (first | exact Below.refl _ _ | assumption | (refine Below.setCell ?_ (by first | (simp; done) | (simp; omega) | omega) _) | (refine Below.alloc ?_ (by first | (simp; done) | (simp; omega) | omega) _) | (refine Below.drew ?_) | (refine Below.drewN' ?_ _))))).mono ?_); rintro e w3 hks; obtain ⟨b, cap3, rfl, hm3, hbl, hcell, hb3⟩ := hAN.out _ _ _ _ (KON.out.keep (by repeat (first | exact Below.refl _ _ | assumption | (refine Below.setCell ?_ (by first | (simp; done) | (simp; omega) | omega) _) | (refine Below.alloc ?_ (by first | (simp; done) | (simp; omega) | omega) _) | (refine Below.drew ?_) | (refine Below.drewN' ?_ _)))) hks; clear hks; have hb13 : Below w1.heap.size w1 w3 := Below.trans (by exact (by repeat (first | exact Below.refl _ _ | assumption | (refine Below.setCell ?_ (by first | (simp; done) | (simp; omega) | omega) _) | (refine Below.alloc ?_ (by first | (simp; done) | (simp; omega) | omega) _) | (refine Below.drew ?_) | (refine Below.drewN' ?_ _)))) (hb3.mono (by first | (simp; done) | (simp; omega) | omega)); have hz13 := hb13.size; have HC := Lib.hid hcell; clear hcell))
        go_loopw [11, 12] (fun s11 s12 wr => ∃ k : Nat, k ≤ N ∧ s12 = .int .i64 (k : Int) ∧ s11 = .int .i64 (DT.upI (T.standAt i k)) ∧ Hid (Below w3.heap.size w3 wr)) (fun _ s12 _ => N - (intOf s12).toNat)
        case atStart => exact ⟨0, Nat.zero_le _, rfl, by rw [hst.out.1]; rfl, Below.refl _ _⟩
        case round =>
          obtain ⟨k, hk, rfl, rfl, hw⟩ := hrel
          have hw3 := hw.out
          have hz3 := hw3.size
          have hb1r : Below w1.heap.size w1 wr := hb13.trans (hw3.mono hz13)
          have hz1r := hb1r.size
          have KR := Lib.hid (KON.out.keep hb1r)
          by_cases hlt : k < N
          · have hkx : k < xs.length := by have := HN.out; omega
            obtain ⟨s1, hWi, hNx, hmore⟩ := HG.out k hkx
            have hck : wr.cell? ⟨b, k, none⟩ = some (I (xs[k] : Int)) := (hw3.cell (p := ⟨b, k, none⟩) hbl).trans (HC.out k hkx)
            have HWi := Lib.hid hWi
            have HNx := Lib.hid hNx
            rw [s1, upI_some]
            have hne : ((xs[k] : Int) != (xs[k] : Int)) = false := by simp
            by_cases hlt1 : k + 1 < N
            · obtain ⟨s2, hPv, hCm⟩ := hmore (by have := HN.out; omega)
              have HPv := Lib.hid hPv
              have HCm := Lib.hid hCm
              have HS2 := Lib.hid s2
              rw [s2, upI_some] at HNx
              have hd : decide (k + 1 < N) = true := by simp [hlt1]
              clear hWi hNx hmore s1 s2 hPv hCm
              generalize xs[k] = x at *
              generalize xs[k + 1]'(by have := HN.out; omega) = y at *
              go_wp2_with (first
                | ((with_reducible refine (HWi.out _ _ (KR.out.keep (by repeat (first | exact Below.refl _ _ | assumption | (refine Below.setCell ?_ (by first | (simp; done) | (simp; omega) | omega) _) | (refine Below.alloc ?_ (by first | (simp; done) | (simp; omega) | omega) _) | (refine Below.drew ?_) | (refine Below.drewN' ?_ _))))).mono ?_); rintro e w4 ⟨rfl, hb⟩; have hz_w4 := hb.size; (try simp only [World.size_alloc, World.size_setCell, World.size_drew, size_drewN'] at hz_w4); have hb_w4 : Below wr.heap.size wr w4 := Below.trans (by exact (by repeat (first | exact Below.refl _ _ | assumption | (refine Below.setCell ?_ (by first | (simp; done) | (simp; omega) | omega) _) | (refine Below.alloc ?_ (by first | (simp; done) | (simp; omega) | omega) _) | (refine Below.drew ?_) | (refine Below.drewN' ?_ _)))) (hb.mono (by first | (simp; done) | (simp; omega) | omega)); obtain ⟨hc_w4, hf_w4⟩ := bcell hb_w4; clear hb)
                | ((with_reducible refine (HNx.out _ _ (KR.out.keep (by repeat (first | exact Below.refl _ _ | assumption | (refine Below.setCell ?_ (by first | (simp; done) | (simp; omega) | omega) _) | (refine Below.alloc ?_ (by first | (simp; done) | (simp; omega) | omega) _) | (refine Below.drew ?_) | (refine Below.drewN' ?_ _))))).mono ?_); rintro e w5 ⟨rfl, hb⟩; have hz_w5 := hb.size; (try simp only [World.size_alloc, World.size_setCell, World.size_drew, size_drewN'] at hz_w5); have hb_w5 : Below wr.heap.size wr w5 := Below.trans (by exact (by repeat (first | exact Below.refl _ _ | assumption | (refine Below.setCell ?_ (by first | (simp; done) | (simp; omega) | omega) _) | (refine Below.alloc ?_ (by first | (simp; done) | (simp; omega) | omega) _) | (refine Below.drew ?_) | (refine Below.drewN' ?_ _)))) (hb.mono (by first | (simp; done) | (simp; omega) | omega)); obtain ⟨hc_w5, hf_w5⟩ := bcell hb_w5; clear hb)
                | ((with_reducible refine (HPv.out _ _ (KR.out.keep (by repeat (first | exact Below.refl _ _ | assumption | (refine Below.setCell ?_ (by first | (simp; done) | (simp; omega) | omega) _) | (refine Below.alloc ?_ (by first | (simp; done) | (simp; omega) | omega) _) | (refine Below.drew ?_) | (refine Below.drewN' ?_ _))))).mono ?_); rintro e w6 ⟨rfl, hb⟩; have hz_w6 := hb.size; (try simp only [World.size_alloc, World.size_setCell, World.size_drew, size_drewN'] at hz_w6); have hb_w6 : Below wr.heap.size wr w6 := Below.trans (by exact (by repeat (first | exact Below.refl _ _ | assumption | (refine Below.setCell ?_ (by first | (simp; done) | (simp; omega) | omega) _) | (refine Below.alloc ?_ (by first | (simp; done) | (simp; omega) | omega) _) | (refine Below.drew ?_) | (refine Below.drewN' ?_ _)))) (hb.mono (by first | (simp; done) | (simp; omega) | omega)); obtain ⟨hc_w6, hf_w6⟩ := bcell hb_w6; clear hb)
                | ((with_reducible refine (HCm.out _ _ (KR.out.keep (by repeat (first | exact Below.refl _ _ | assumption | (refine Below.setCell ?_ (by first | (simp; done) | (simp; omega) | omega) _) | (refine Below.alloc ?_ (by first | (simp; done) | (simp; omega) | omega) _) | (refine Below.drew ?_) | (refine Below.drewN' ?_ _))))).mono ?_); rintro e w7 ⟨rfl, hb⟩; have hz_w7 := hb.size; (try simp only [World.size_alloc, World.size_setCell, World.size_drew, size_drewN'] at hz_w7); have hb_w7 : Below wr.heap.size wr w7 := Below.trans (by exact (by repeat (first | exact Below.refl _ _ | assumption | (refine Below.setCell ?_ (by first | (simp; done) | (simp; omega) | omega) _) | (refine Below.alloc ?_ (by first | (simp; done) | (simp; omega) | omega) _) | (refine Below.drew ?_) | (refine Below.drewN' ?_ _)))) (hb.mono (by first | (simp; done) | (simp; omega) | omega)); obtain ⟨hc_w7, hf_w7⟩ := bcell hb_w7; clear hb))
              exact ⟨⟨k + 1, by omega, by go_num, by rw [HS2.out]; rfl, hw.out.trans (Below.mono (show Below wr.heap.size wr _ from (by repeat (first | exact Below.refl _ _ | assumption | (refine Below.setCell ?_ (by first | (simp; done) | (simp; omega) | omega) _) | (refine Below.alloc ?_ (by first | (simp; done) | (simp; omega) | omega) _) | (refine Below.drew ?_) | (refine Below.drewN' ?_ _)))) hz3)⟩, by simp [intOf]; omega⟩
            · have s2 := hst.out.2 (k + 1) (by have := HN.out; omega)
              have HS2 := Lib.hid s2
              rw [s2, upI_none] at HNx
              have hd : decide (k + 1 < N) = false := by simp; omega
              clear hWi hNx hmore s1 s2
              generalize xs[k] = x at *
              go_wp2_with (first
                | ((with_reducible refine (HWi.out _ _ (KR.out.keep (by repeat (first | exact Below.refl _ _ | assumption | (refine Below.setCell ?_ (by first | (simp; done) | (simp; omega) | omega) _) | (refine Below.alloc ?_ (by first | (simp; done) | (simp; omega) | omega) _) | (refine Below.drew ?_) | (refine Below.drewN' ?_ _))))).mono ?_); rintro e w4 ⟨rfl, hb⟩; have hz_w4 := hb.size; (try simp only [World.size_alloc, World.size_setCell, World.size_drew, size_drewN'] at hz_w4); have hb_w4 : Below wr.heap.size wr w4 := Below.trans (by exact (by repeat (first | exact Below.refl _ _ | assumption | (refine Below.setCell ?_ (by first | (simp; done) | (simp; omega) | omega) _) | (refine Below.alloc ?_ (by first | (simp; done) | (simp; omega) | omega) _) | (refine Below.drew ?_) | (refine Below.drewN' ?_ _)))) (hb.mono (by first | (simp; done) | (simp; omega) | omega)); obtain ⟨hc_w4, hf_w4⟩ := bcell hb_w4; clear hb)
                | ((with_reducible refine (HNx.out _ _ (KR.out.keep (by repeat (first | exact Below.refl _ _ | assumption | (refine Below.setCell ?_ (by first | (simp; done) | (simp; omega) | omega) _) | (refine Below.alloc ?_ (by first | (simp; done) | (simp; omega) | omega) _) | (refine Below.drew ?_) | (refine Below.drewN' ?_ _))))).mono ?_); rintro e w5 ⟨rfl, hb⟩; have hz_w5 := hb.size; (try simp only [World.size_alloc, World.size_setCell, World.size_drew, size_drewN'] at hz_w5); have hb_w5 : Below wr.heap.size wr w5 := Below.trans (by exact (by repeat (first | exact Below.refl _ _ | assumption | (refine Below.setCell ?_ (by first | (simp; done) | (simp; omega) | omega) _) | (refine Below.alloc ?_ (by first | (simp; done) | (simp; omega) | omega) _) | (refine Below.drew ?_) | (refine Below.drewN' ?_ _)))) (hb.mono (by first | (simp; done) | (simp; omega) | omega)); obtain ⟨hc_w5, hf_w5⟩ := bcell hb_w5; clear hb))
              exact ⟨⟨k + 1, by omega, by go_num, by rw [HS2.out]; rfl, hw.out.trans (Below.mono (show Below wr.heap.size wr _ from (by repeat (first | exact Below.refl _ _ | assumption | (refine Below.setCell ?_ (by first | (simp; done) | (simp; omega) | omega) _) | (refine Below.alloc ?_ (by first | (simp; done) | (simp; omega) | omega) _) | (refine Below.drew ?_) | (refine Below.drewN' ?_ _)))) hz3)⟩, by simp [intOf]; omega⟩
          · have hkN : k = N := by omega
            subst hkN
            have s2 := hst.out.2 k (by have := HN.out; omega)
            rw [s2, upI_none]
            clear s2
            go_wp2_with (first | ((with_reducible refine (HPr.out _ _ (KON.out.keep (by repeat (first | exact Below.refl _ _ | assumption | (refine Below.setCell ?_ (by first | (simp; done) | (simp; omega) | omega) _) | (refine Below.alloc ?_ (by first | (simp; done) | (simp; omega) | omega) _) | (refine Below.drew ?_) | (refine Below.drewN' ?_ _))))).mono ?_); rintro e w4 ⟨rfl, hb⟩; have hz_w4 := hb.size; (try simp only [World.size_alloc, World.size_setCell, World.size_drew, size_drewN'] at hz_w4); have hb_w4 : Below w1.heap.size w1 w4 := Below.trans (by exact (by repeat (first | exact Below.refl _ _ | assumption | (refine Below.setCell ?_ (by first | (simp; done) | (simp; omega) | omega) _) | (refine Below.alloc ?_ (by first | (simp; done) | (simp; omega) | omega) _) | (refine Below.drew ?_) | (refine Below.drewN' ?_ _)))) (hb.mono (by first | (simp; done) | (simp; omega) | omega)); obtain ⟨hc_w4, hf_w4⟩ := bcell hb_w4; clear hb) | ((with_reducible refine (awake09_any).mono ?_); rintro e w5 ⟨rfl, hb⟩; have hz_w5 := hb.size; (try simp only [World.size_alloc, World.size_setCell, World.size_drew, size_drewN'] at hz_w5); have hb_w5 : Below w1.heap.size w1 w5 := Below.trans (by exact (by repeat (first | exact Below.refl _ _ | assumption | (refine Below.setCell ?_ (by first | (simp; done) | (simp; omega) | omega) _) | (refine Below.alloc ?_ (by first | (simp; done) | (simp; omega) | omega) _) | (refine Below.drew ?_) | (refine Below.drewN' ?_ _)))) (hb.mono (by first | (simp; done) | (simp; omega) | omega)); obtain ⟨hc_w5, hf_w5⟩ := bcell hb_w5; clear hb))
            go_ret
            exact ⟨rfl, hb_w1.trans (Below.mono (show Below w1.heap.size w1 _ from (by repeat (first | exact Below.refl _ _ | assumption | (refine Below.setCell ?_ (by first | (simp; done) | (simp; omega) | omega) _) | (refine Below.alloc ?_ (by first | (simp; done) | (simp; omega) | omega) _) | (refine Below.drew ?_) | (refine Below.drewN' ?_ _)))) hz_w1)⟩
    · have hf : T.has rt = false := by simpa using hh
      have HH : Hid (∀ q W, On q T W → Calls Try.prog 42 #[.pointer q, I rt] W (fun e w' => e = .returned (.bool false) ∧ W = w')) := fun q W h => by have := h.has W (Below.refl _ _) rt; rwa [hf] at this
      clear hh hf hW
      go_enter Try.func17, Try.ntmps17
      go_wp2_with (first
        | ((with_reducible refine (HT.out _ (by repeat (first | exact Below.refl _ _ | assumption | (refine Below.setCell ?_ (by first | (simp; done) | (simp; omega) | omega) _) | (refine Below.alloc ?_ (by first | (simp; done) | (simp; omega) | omega) _) | (refine Below.drew ?_) | (refine Below.drewN' ?_ _)))).mono ?_); rintro e w1 ⟨tb, rfl, hs⟩; obtain ⟨hon, hold⟩ := HSat.out _ _ _ hs; have hb_w1 : Below w.heap.size w w1 := Below.trans (by exact (by repeat (first | exact Below.refl _ _ | assumption | (refine Below.setCell ?_ (by first | (simp; done) | (simp; omega) | omega) _) | (refine Below.alloc ?_ (by first | (simp; done) | (simp; omega) | omega) _) | (refine Below.drew ?_) | (refine Below.drewN' ?_ _)))) (hold.mono (by first | (simp; done) | (simp; omega) | omega)); have hz_w1 := hb_w1.size; have KON := Lib.hid hon; clear hs hon hold)
        | ((with_reducible refine (HH.out _ _ (KON.out.keep (by repeat (first | exact Below.refl _ _ | assumption | (refine Below.setCell ?_ (by first | (simp; done) | (simp; omega) | omega) _) | (refine Below.alloc ?_ (by first | (simp; done) | (simp; omega) | omega) _) | (refine Below.drew ?_) | (refine Below.drewN' ?_ _))))).mono ?_); rintro e w' ⟨rfl, rfl⟩)
        | ((with_reducible refine (awake09_any).mono ?_); rintro e w2 ⟨rfl, hb⟩; have hz_w2 := hb.size; (try simp only [World.size_alloc, World.size_setCell, World.size_drew, size_drewN'] at hz_w2); have hb_w2 : Below w.heap.size w w2 := Below.trans (by exact (by repeat (first | exact Below.refl _ _ | assumption | (refine Below.setCell ?_ (by first | (simp; done) | (simp; omega) | omega) _) | (refine Below.alloc ?_ (by first | (simp; done) | (simp; omega) | omega) _) | (refine Below.drew ?_) | (refine Below.drewN' ?_ _)))) (hb.mono (by first | (simp; done) | (simp; omega) | omega)); obtain ⟨hc_w2, hf_w2⟩ := bcell hb_w2; clear hb))
      go_ret
      exact ⟨rfl, (by repeat (first | exact Below.refl _ _ | assumption | (refine Below.setCell ?_ (by first | (simp; done) | (simp; omega) | omega) _) | (refine Below.alloc ?_ (by first | (simp; done) | (simp; omega) | omega) _) | (refine Below.drew ?_) | (refine Below.drewN' ?_ _)))⟩
end Go.Proofs.Ytnnjlpkjpbbklaa
