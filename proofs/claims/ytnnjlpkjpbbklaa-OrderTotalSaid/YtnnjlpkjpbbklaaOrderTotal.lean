/-
  OrderTotal walked: it returns true. Conditions: the calls lie in memory.
-/
import Derived.Test.YtnnjlpkjpbbklaaLaw09
set_option linter.unusedVariables false
set_option linter.unusedSimpArgs false
namespace Go.Proofs.Ytnnjlpkjpbbklaa
open Go.RowKit

theorem DT.cmp_bd (T : DT) (c : Bytes → Nat) (a b : Pl) : -1 ≤ (T.cmp c a b).1 ∧ (T.cmp c a b).1 ≤ 1 := by
  unfold DT.cmp
  split
  · have := cmpL_bd (T.key a) (T.key b); dsimp only; omega
  · simp

set_option maxRecDepth 100000 in
set_option maxHeartbeats 4000000 in
theorem orderTotal_any {w : World} {R : Nat → Prop} {v : Value} {l : List CN} (h : CallsAt w R v l) (hR : ∀ b, R b → b < w.heap.size) (cap dep an aa bn ba cn ca : Int) :
    Calls Try.prog 13 #[I cap, I dep, v, .agg #[I an, I aa], .agg #[I bn, I ba], .agg #[I cn, I ca]] w (Ret (.bool true) w) := by
  obtain ⟨A, vcap, hv, hcap, hmx, -⟩ := h.row.form
  cases hok : isTree l cap dep with
  | false =>
    have HT : Hid (∀ W, Below w.heap.size w W → Calls Try.prog 80 #[I cap, I dep, v] W (Ret (.pointer none) W)) := fun W hb => tree09_no (h.keep fun b hb1 => hb.block b (hR b hb1)) (fun b hb1 => Nat.lt_of_lt_of_le (hR b hb1) hb.size) hok
    subst hv
    clear h hok
    generalize l.length = n at *
    go_enter Try.func13, Try.ntmps13
    go_wp2_with (first | ((with_reducible refine (HT.out _ (by repeat (first | exact Below.refl _ _ | assumption | (refine Below.setCell ?_ (by first | (simp; done) | (simp; omega) | omega) _) | (refine Below.alloc ?_ (by first | (simp; done) | (simp; omega) | omega) _) | (refine Below.drew ?_) | (refine Below.drewN' ?_ _)))).mono ?_); rintro e w1 ⟨rfl, hb⟩; have hz_w1 := hb.size; (try simp only [World.size_alloc, World.size_setCell, World.size_drew, size_drewN'] at hz_w1); have hb_w1 : Below w.heap.size w w1 := Below.trans (by exact (by repeat (first | exact Below.refl _ _ | assumption | (refine Below.setCell ?_ (by first | (simp; done) | (simp; omega) | omega) _) | (refine Below.alloc ?_ (by first | (simp; done) | (simp; omega) | omega) _) | (refine Below.drew ?_) | (refine Below.drewN' ?_ _)))) (hb.mono (by first | (simp; done) | (simp; omega) | omega)); obtain ⟨hc_w1, hf_w1⟩ := bcell hb_w1; clear hb) | ((with_reducible refine (awake09_any).mono ?_); rintro e w2 ⟨rfl, hb⟩; have hz_w2 := hb.size; (try simp only [World.size_alloc, World.size_setCell, World.size_drew, size_drewN'] at hz_w2); have hb_w2 : Below w.heap.size w w2 := Below.trans (by exact (by repeat (first | exact Below.refl _ _ | assumption | (refine Below.setCell ?_ (by first | (simp; done) | (simp; omega) | omega) _) | (refine Below.alloc ?_ (by first | (simp; done) | (simp; omega) | omega) _) | (refine Below.drew ?_) | (refine Below.drewN' ?_ _)))) (hb.mono (by first | (simp; done) | (simp; omega) | omega)); obtain ⟨hc_w2, hf_w2⟩ := bcell hb_w2; clear hb))
    go_ret
    exact ⟨rfl, (by repeat (first | exact Below.refl _ _ | assumption | (refine Below.setCell ?_ (by first | (simp; done) | (simp; omega) | omega) _) | (refine Below.alloc ?_ (by first | (simp; done) | (simp; omega) | omega) _) | (refine Below.drew ?_) | (refine Below.drewN' ?_ _)))⟩
  | true =>
    have HT : Hid (∀ W, Below w.heap.size w W → Calls Try.prog 80 #[I cap, I dep, v] W fun e w' => ∃ tb, e = .returned (.pointer (some ⟨tb, 0, none⟩)) ∧ Sat tb (fun _ => False) W ((DT.new cap dep).play anew (l.map CN.call)) w') := fun W hb => tree09_yes (h.keep fun b hb1 => hb.block b (hR b hb1)) (fun b hb1 => Nat.lt_of_lt_of_le (hR b hb1) hb.size) hok
    have hW : ((DT.new cap dep).play anew (l.map CN.call)).WF := isTree_wf hok
    subst hv
    clear h hok
    generalize (DT.new cap dep).play anew (l.map CN.call) = T at *
    generalize l.length = n at *
    have HF : Hid (∀ q W, On q T W → (Calls Try.prog 67 #[.pointer q, .agg #[I an, I aa], .agg #[I bn, I ba]] W (Ret (.tuple #[I (T.cmp runeLen ⟨an, aa⟩ ⟨bn, ba⟩).1, .bool (T.cmp runeLen ⟨an, aa⟩ ⟨bn, ba⟩).2]) W)) ∧
        (Calls Try.prog 67 #[.pointer q, .agg #[I bn, I ba], .agg #[I an, I aa]] W (Ret (.tuple #[I (T.cmp runeLen ⟨bn, ba⟩ ⟨an, aa⟩).1, .bool (T.cmp runeLen ⟨bn, ba⟩ ⟨an, aa⟩).2]) W)) ∧
        (Calls Try.prog 67 #[.pointer q, .agg #[I bn, I ba], .agg #[I cn, I ca]] W (Ret (.tuple #[I (T.cmp runeLen ⟨bn, ba⟩ ⟨cn, ca⟩).1, .bool (T.cmp runeLen ⟨bn, ba⟩ ⟨cn, ca⟩).2]) W)) ∧
        (Calls Try.prog 67 #[.pointer q, .agg #[I an, I aa], .agg #[I cn, I ca]] W (Ret (.tuple #[I (T.cmp runeLen ⟨an, aa⟩ ⟨cn, ca⟩).1, .bool (T.cmp runeLen ⟨an, aa⟩ ⟨cn, ca⟩).2]) W)) ∧
        (Calls Try.prog 76 #[.pointer q, .agg #[I an, I aa]] W (Ret (.bool (T.may runeLen ⟨an, aa⟩)) W)) ∧
        (Calls Try.prog 78 #[.pointer q, I an, I bn] W (Ret (.bool (T.isWithin an bn)) W)) ∧
        (Calls Try.prog 75 #[.pointer q, I bn] W (Ret (I (T.length runeLen bn)) W)) ∧
        (Calls Try.prog 67 #[.pointer q, .agg #[I bn, I 0], .agg #[I an, I aa]] W (Ret (.tuple #[I (T.cmp runeLen ⟨bn, 0⟩ ⟨an, aa⟩).1, .bool (T.cmp runeLen ⟨bn, 0⟩ ⟨an, aa⟩).2]) W)) ∧
        (Calls Try.prog 67 #[.pointer q, .agg #[I bn, I (T.length runeLen bn)], .agg #[I an, I aa]] W (Ret (.tuple #[I (T.cmp runeLen ⟨bn, T.length runeLen bn⟩ ⟨an, aa⟩).1, .bool (T.cmp runeLen ⟨bn, T.length runeLen bn⟩ ⟨an, aa⟩).2]) W))) := fun q W h =>
      ⟨cmp09_any h _ _ _ _, cmp09_any h _ _ _ _, cmp09_any h _ _ _ _, cmp09_any h _ _ _ _, may_any h _ _, within09_any h _ _, length_any h _, cmp09_any h _ _ _ _, cmp09_any h _ _ _ _⟩
    obtain ⟨x1, x2, x3, x4⟩ := hW.cmp_total (c := runeLen) ⟨an, aa⟩ ⟨bn, ba⟩ ⟨cn, ca⟩
    have x5 := fun h1 h2 h3 => hW.cmp_ends (c := runeLen) (a := ⟨an, aa⟩) (o := bn) h1 h2 h3
    dsimp only at x5
    have xeq : (⟨an, aa⟩ : Pl) = ⟨bn, ba⟩ ↔ an = bn ∧ aa = ba := by simp
    rw [xeq] at x3
    have b1 := T.cmp_bd runeLen ⟨an, aa⟩ ⟨bn, ba⟩
    have b2 := T.cmp_bd runeLen ⟨bn, ba⟩ ⟨cn, ca⟩
    have b3 := T.cmp_bd runeLen ⟨an, aa⟩ ⟨cn, ca⟩
    have HSat : Hid (∀ tb W W', Sat tb (fun _ => False) W T W' → On (some ⟨tb, 0, none⟩) T W' ∧ T.WF ∧ Below W.heap.size W W') := fun tb W W' h => ⟨h.on, h.wf, h.old⟩
    generalize T.cmp runeLen ⟨bn, 0⟩ ⟨an, aa⟩ = c0 at *
    generalize T.cmp runeLen ⟨bn, T.length runeLen bn⟩ ⟨an, aa⟩ = c9 at *
    generalize T.cmp runeLen ⟨an, aa⟩ ⟨bn, ba⟩ = cab at *
    generalize T.cmp runeLen ⟨bn, ba⟩ ⟨an, aa⟩ = cba at *
    generalize T.cmp runeLen ⟨bn, ba⟩ ⟨cn, ca⟩ = cbc at *
    generalize T.cmp runeLen ⟨an, aa⟩ ⟨cn, ca⟩ = cac at *
    generalize T.may runeLen ⟨an, aa⟩ = ma at *
    generalize T.isWithin an bn = wi at *
    generalize T.length runeLen bn = lb at *
    obtain ⟨ab, x⟩ := cab
    obtain ⟨ba', y⟩ := cba
    obtain ⟨bc, z⟩ := cbc
    obtain ⟨ac, u⟩ := cac
    obtain ⟨c0v, c0b⟩ := c0
    obtain ⟨c9v, c9b⟩ := c9
    dsimp only at HF b1 b2 b3 x1 x2 x3 x4
    subst x1
    have hba : ba' = -ab := by omega
    subst hba
    have H3 := Lib.hid x3
    have H4 := Lib.hid x4
    have H5 := Lib.hid x5
    clear x2 x3 x4 x5 xeq hW
    go_enter Try.func13, Try.ntmps13
    go_upto_region 6 with (first | ((with_reducible refine ((HF.out _ _ (KON.out.keep (by repeat (first | exact Below.refl _ _ | assumption | (refine Below.setCell ?_ (by first | (simp; done) | (simp; omega) | omega) _) | (refine Below.alloc ?_ (by first | (simp; done) | (simp; omega) | omega) _) | (refine Below.drew ?_) | (refine Below.drewN' ?_ _))))).1).mono ?_); rintro e w2 ⟨rfl, hb⟩; have hz_w2 := hb.size; (try simp only [World.size_alloc, World.size_setCell, World.size_drew, size_drewN'] at hz_w2); have hb_w2 : Below w1.heap.size w1 w2 := Below.trans (by exact (by repeat (first | exact Below.refl _ _ | assumption | (refine Below.setCell ?_ (by first | (simp; done) | (simp; omega) | omega) _) | (refine Below.alloc ?_ (by first | (simp; done) | (simp; omega) | omega) _) | (refine Below.drew ?_) | (refine Below.drewN' ?_ _)))) (hb.mono (by first | (simp; done) | (simp; omega) | omega)); obtain ⟨hc_w2, hf_w2⟩ := bcell hb_w2; clear hb) | ((with_reducible refine ((HF.out _ _ (KON.out.keep (by repeat (first | exact Below.refl _ _ | assumption | (refine Below.setCell ?_ (by first | (simp; done) | (simp; omega) | omega) _) | (refine Below.alloc ?_ (by first | (simp; done) | (simp; omega) | omega) _) | (refine Below.drew ?_) | (refine Below.drewN' ?_ _))))).2.1).mono ?_); rintro e w3 ⟨rfl, hb⟩; have hz_w3 := hb.size; (try simp only [World.size_alloc, World.size_setCell, World.size_drew, size_drewN'] at hz_w3); have hb_w3 : Below w1.heap.size w1 w3 := Below.trans (by exact (by repeat (first | exact Below.refl _ _ | assumption | (refine Below.setCell ?_ (by first | (simp; done) | (simp; omega) | omega) _) | (refine Below.alloc ?_ (by first | (simp; done) | (simp; omega) | omega) _) | (refine Below.drew ?_) | (refine Below.drewN' ?_ _)))) (hb.mono (by first | (simp; done) | (simp; omega) | omega)); obtain ⟨hc_w3, hf_w3⟩ := bcell hb_w3; clear hb) | ((with_reducible refine (HT.out _ (by repeat (first | exact Below.refl _ _ | assumption | (refine Below.setCell ?_ (by first | (simp; done) | (simp; omega) | omega) _) | (refine Below.alloc ?_ (by first | (simp; done) | (simp; omega) | omega) _) | (refine Below.drew ?_) | (refine Below.drewN' ?_ _)))).mono ?_); rintro e w1 ⟨tb, rfl, hs⟩; obtain ⟨hon, hwf, hold⟩ := HSat.out _ _ _ hs; have hb_w1 : Below w.heap.size w w1 := Below.trans (by exact (by repeat (first | exact Below.refl _ _ | assumption | (refine Below.setCell ?_ (by first | (simp; done) | (simp; omega) | omega) _) | (refine Below.alloc ?_ (by first | (simp; done) | (simp; omega) | omega) _) | (refine Below.drew ?_) | (refine Below.drewN' ?_ _)))) (hold.mono (by first | (simp; done) | (simp; omega) | omega)); have kA : At w1 w.heap.size 25 #[I an, I aa] := At.keep (by (repeat' (first | (with_reducible assumption) | (with_reducible refine unhid ?_; with_reducible assumption) | (with_reducible refine At.fresh _ _ _ (by first | (simp; done) | (simp; omega) | omega)) | (with_reducible apply At.set') | (with_reducible apply At.far) | (with_reducible apply At.alloc) | (with_reducible apply At.drew) | (with_reducible apply At.drewN) | exact (rfl : Array.setIfInBounds _ _ _ = _) | (refine Ne.symm ?_; simp; done) | (show _ ≠ _; simp; done) | (show _ ≠ _; simp; omega) | (show _ ≠ _; omega))); (first | done | fail)) hold; have kB : At w1 (w.heap.size + 1) 25 #[I bn, I ba] := At.keep (by (repeat' (first | (with_reducible assumption) | (with_reducible refine unhid ?_; with_reducible assumption) | (with_reducible refine At.fresh _ _ _ (by first | (simp; done) | (simp; omega) | omega)) | (with_reducible apply At.set') | (with_reducible apply At.far) | (with_reducible apply At.alloc) | (with_reducible apply At.drew) | (with_reducible apply At.drewN) | exact (rfl : Array.setIfInBounds _ _ _ = _) | (refine Ne.symm ?_; simp; done) | (show _ ≠ _; simp; done) | (show _ ≠ _; simp; omega) | (show _ ≠ _; omega))); (first | done | fail)) hold; have kC : At w1 (w.heap.size + 2) 25 #[I cn, I ca] := At.keep (by (repeat' (first | (with_reducible assumption) | (with_reducible refine unhid ?_; with_reducible assumption) | (with_reducible refine At.fresh _ _ _ (by first | (simp; done) | (simp; omega) | omega)) | (with_reducible apply At.set') | (with_reducible apply At.far) | (with_reducible apply At.alloc) | (with_reducible apply At.drew) | (with_reducible apply At.drewN) | exact (rfl : Array.setIfInBounds _ _ _ = _) | (refine Ne.symm ?_; simp; done) | (show _ ≠ _; simp; done) | (show _ ≠ _; simp; omega) | (show _ ≠ _; omega))); (first | done | fail)) hold; have kAc := kA.cell; have kBc := kB.cell; have kCc := kC.cell; have hz_w1 := hb_w1.size; have kAl := kA.lt; have kBl := kB.lt; have kCl := kC.lt; have KA := Lib.hid kA; have KB := Lib.hid kB; have KC := Lib.hid kC; have KON := Lib.hid hon; clear hs hon hwf hold kA kB kC))
    go_cut [66] (fun s66 wc => s66 = .bool false ∧ wc = w3)
    case first =>
      cases x with
      | false =>
        go_wp2_with fail
        go_meet
        exact ⟨rfl, rfl⟩
      | true =>
        have h3 := H3.out rfl
        by_cases h0 : ab = 0
        · obtain ⟨rfl, rfl⟩ := h3.1 h0
          subst h0
          go_wp2_with fail
          go_meet
          exact ⟨rfl, rfl⟩
        · have hd : (ab == 0) = false := by simpa using h0
          by_cases e1 : an = bn
          · have e2 : ¬ aa = ba := fun e => h0 (h3.2 ⟨e1, e⟩)
            subst e1
            have hd2 : (aa == ba) = false := by simpa using e2
            clear h3 h0 e2
            go_wp2_with fail
            go_meet
            exact ⟨rfl, rfl⟩
          · have hd2 : (an == bn) = false := by simpa using e1
            clear h3 h0 e1
            go_wp2_with fail
            go_meet
            exact ⟨rfl, rfl⟩
    case rest =>
      obtain ⟨rfl, rfl⟩ := hcut
      go_upto_region 10 with (first | ((with_reducible refine ((HF.out _ _ (KON.out.keep (by repeat (first | exact Below.refl _ _ | assumption | (refine Below.setCell ?_ (by first | (simp; done) | (simp; omega) | omega) _) | (refine Below.alloc ?_ (by first | (simp; done) | (simp; omega) | omega) _) | (refine Below.drew ?_) | (refine Below.drewN' ?_ _))))).2.2.1).mono ?_); rintro e w4 ⟨rfl, hb⟩; have hz_w4 := hb.size; (try simp only [World.size_alloc, World.size_setCell, World.size_drew, size_drewN'] at hz_w4); have hb_w4 : Below w1.heap.size w1 w4 := Below.trans (by exact (by repeat (first | exact Below.refl _ _ | assumption | (refine Below.setCell ?_ (by first | (simp; done) | (simp; omega) | omega) _) | (refine Below.alloc ?_ (by first | (simp; done) | (simp; omega) | omega) _) | (refine Below.drew ?_) | (refine Below.drewN' ?_ _)))) (hb.mono (by first | (simp; done) | (simp; omega) | omega)); obtain ⟨hc_w4, hf_w4⟩ := bcell hb_w4; clear hb) | ((with_reducible refine ((HF.out _ _ (KON.out.keep (by repeat (first | exact Below.refl _ _ | assumption | (refine Below.setCell ?_ (by first | (simp; done) | (simp; omega) | omega) _) | (refine Below.alloc ?_ (by first | (simp; done) | (simp; omega) | omega) _) | (refine Below.drew ?_) | (refine Below.drewN' ?_ _))))).2.2.2.1).mono ?_); rintro e w5 ⟨rfl, hb⟩; have hz_w5 := hb.size; (try simp only [World.size_alloc, World.size_setCell, World.size_drew, size_drewN'] at hz_w5); have hb_w5 : Below w1.heap.size w1 w5 := Below.trans (by exact (by repeat (first | exact Below.refl _ _ | assumption | (refine Below.setCell ?_ (by first | (simp; done) | (simp; omega) | omega) _) | (refine Below.alloc ?_ (by first | (simp; done) | (simp; omega) | omega) _) | (refine Below.drew ?_) | (refine Below.drewN' ?_ _)))) (hb.mono (by first | (simp; done) | (simp; omega) | omega)); obtain ⟨hc_w5, hf_w5⟩ := bcell hb_w5; clear hb))
      go_cut [112] (fun s112 wc => s112 = .bool false ∧ wc = w5)
      case first =>
        cases x with
        | false =>
          go_wp2_with fail
          go_meet
          exact ⟨rfl, rfl⟩
        | true =>
          cases z with
          | false =>
            go_wp2_with fail
            go_meet
            exact ⟨rfl, rfl⟩
          | true =>
            obtain ⟨h1, h2, h3⟩ := H4.out rfl rfl
            subst h1
            by_cases a1 : ab ≤ 0
            · have d1 : decide (ab ≤ 0) = true := by simp [a1]
              by_cases a2 : bc ≤ 0
              · have d2 : decide (bc ≤ 0) = true := by simp [a2]
                have d3 : decide (0 < ac) = false := by simp; omega
                by_cases a3 : ab < 0
                · have d4 : decide (ab < 0) = true := by simp [a3]
                  have d5 : decide (0 ≤ ac) = false := by simp; omega
                  clear h2 h3 a1 a2 a3
                  go_wp2_with fail
                  go_meet
                  exact ⟨rfl, rfl⟩
                · have d4 : decide (ab < 0) = false := by simp; omega
                  clear h2 h3 a1 a2 a3
                  go_wp2_with fail
                  go_meet
                  exact ⟨rfl, rfl⟩
              · have d2 : decide (bc ≤ 0) = false := by simp; omega
                by_cases a3 : ab < 0
                · have d4 : decide (ab < 0) = true := by simp [a3]
                  clear h2 h3 a1 a2 a3
                  go_wp2_with fail
                  go_meet
                  exact ⟨rfl, rfl⟩
                · have d4 : decide (ab < 0) = false := by simp; omega
                  clear h2 h3 a1 a2 a3
                  go_wp2_with fail
                  go_meet
                  exact ⟨rfl, rfl⟩
            · have d1 : decide (ab ≤ 0) = false := by simp; omega
              have d4 : decide (ab < 0) = false := by simp; omega
              clear h2 h3 a1
              go_wp2_with fail
              go_meet
              exact ⟨rfl, rfl⟩
      case rest =>
        obtain ⟨rfl, rfl⟩ := hcut
        cases ma with
        | false =>
          go_wp2_with (first | ((with_reducible refine ((HF.out _ _ (KON.out.keep (by repeat (first | exact Below.refl _ _ | assumption | (refine Below.setCell ?_ (by first | (simp; done) | (simp; omega) | omega) _) | (refine Below.alloc ?_ (by first | (simp; done) | (simp; omega) | omega) _) | (refine Below.drew ?_) | (refine Below.drewN' ?_ _))))).2.2.2.2.1).mono ?_); rintro e w6 ⟨rfl, hb⟩; have hz_w6 := hb.size; (try simp only [World.size_alloc, World.size_setCell, World.size_drew, size_drewN'] at hz_w6); have hb_w6 : Below w1.heap.size w1 w6 := Below.trans (by exact (by repeat (first | exact Below.refl _ _ | assumption | (refine Below.setCell ?_ (by first | (simp; done) | (simp; omega) | omega) _) | (refine Below.alloc ?_ (by first | (simp; done) | (simp; omega) | omega) _) | (refine Below.drew ?_) | (refine Below.drewN' ?_ _)))) (hb.mono (by first | (simp; done) | (simp; omega) | omega)); obtain ⟨hc_w6, hf_w6⟩ := bcell hb_w6; clear hb) | ((with_reducible refine (awake09_any).mono ?_); rintro e w7 ⟨rfl, hb⟩; have hz_w7 := hb.size; (try simp only [World.size_alloc, World.size_setCell, World.size_drew, size_drewN'] at hz_w7); have hb_w7 : Below w1.heap.size w1 w7 := Below.trans (by exact (by repeat (first | exact Below.refl _ _ | assumption | (refine Below.setCell ?_ (by first | (simp; done) | (simp; omega) | omega) _) | (refine Below.alloc ?_ (by first | (simp; done) | (simp; omega) | omega) _) | (refine Below.drew ?_) | (refine Below.drewN' ?_ _)))) (hb.mono (by first | (simp; done) | (simp; omega) | omega)); obtain ⟨hc_w7, hf_w7⟩ := bcell hb_w7; clear hb))
          go_ret
          exact ⟨rfl, hb_w1.trans (Below.mono (show Below w1.heap.size w1 _ from (by repeat (first | exact Below.refl _ _ | assumption | (refine Below.setCell ?_ (by first | (simp; done) | (simp; omega) | omega) _) | (refine Below.alloc ?_ (by first | (simp; done) | (simp; omega) | omega) _) | (refine Below.drew ?_) | (refine Below.drewN' ?_ _)))) hz_w1)⟩
        | true =>
          cases wi with
          | false =>
            go_wp2_with (first | ((with_reducible refine ((HF.out _ _ (KON.out.keep (by repeat (first | exact Below.refl _ _ | assumption | (refine Below.setCell ?_ (by first | (simp; done) | (simp; omega) | omega) _) | (refine Below.alloc ?_ (by first | (simp; done) | (simp; omega) | omega) _) | (refine Below.drew ?_) | (refine Below.drewN' ?_ _))))).2.2.2.2.1).mono ?_); rintro e w6 ⟨rfl, hb⟩; have hz_w6 := hb.size; (try simp only [World.size_alloc, World.size_setCell, World.size_drew, size_drewN'] at hz_w6); have hb_w6 : Below w1.heap.size w1 w6 := Below.trans (by exact (by repeat (first | exact Below.refl _ _ | assumption | (refine Below.setCell ?_ (by first | (simp; done) | (simp; omega) | omega) _) | (refine Below.alloc ?_ (by first | (simp; done) | (simp; omega) | omega) _) | (refine Below.drew ?_) | (refine Below.drewN' ?_ _)))) (hb.mono (by first | (simp; done) | (simp; omega) | omega)); obtain ⟨hc_w6, hf_w6⟩ := bcell hb_w6; clear hb) | ((with_reducible refine ((HF.out _ _ (KON.out.keep (by repeat (first | exact Below.refl _ _ | assumption | (refine Below.setCell ?_ (by first | (simp; done) | (simp; omega) | omega) _) | (refine Below.alloc ?_ (by first | (simp; done) | (simp; omega) | omega) _) | (refine Below.drew ?_) | (refine Below.drewN' ?_ _))))).2.2.2.2.2.1).mono ?_); rintro e w8 ⟨rfl, hb⟩; have hz_w8 := hb.size; (try simp only [World.size_alloc, World.size_setCell, World.size_drew, size_drewN'] at hz_w8); have hb_w8 : Below w1.heap.size w1 w8 := Below.trans (by exact (by repeat (first | exact Below.refl _ _ | assumption | (refine Below.setCell ?_ (by first | (simp; done) | (simp; omega) | omega) _) | (refine Below.alloc ?_ (by first | (simp; done) | (simp; omega) | omega) _) | (refine Below.drew ?_) | (refine Below.drewN' ?_ _)))) (hb.mono (by first | (simp; done) | (simp; omega) | omega)); obtain ⟨hc_w8, hf_w8⟩ := bcell hb_w8; clear hb) | ((with_reducible refine (awake09_any).mono ?_); rintro e w7 ⟨rfl, hb⟩; have hz_w7 := hb.size; (try simp only [World.size_alloc, World.size_setCell, World.size_drew, size_drewN'] at hz_w7); have hb_w7 : Below w1.heap.size w1 w7 := Below.trans (by exact (by repeat (first | exact Below.refl _ _ | assumption | (refine Below.setCell ?_ (by first | (simp; done) | (simp; omega) | omega) _) | (refine Below.alloc ?_ (by first | (simp; done) | (simp; omega) | omega) _) | (refine Below.drew ?_) | (refine Below.drewN' ?_ _)))) (hb.mono (by first | (simp; done) | (simp; omega) | omega)); obtain ⟨hc_w7, hf_w7⟩ := bcell hb_w7; clear hb))
            go_ret
            exact ⟨rfl, hb_w1.trans (Below.mono (show Below w1.heap.size w1 _ from (by repeat (first | exact Below.refl _ _ | assumption | (refine Below.setCell ?_ (by first | (simp; done) | (simp; omega) | omega) _) | (refine Below.alloc ?_ (by first | (simp; done) | (simp; omega) | omega) _) | (refine Below.drew ?_) | (refine Below.drewN' ?_ _)))) hz_w1)⟩
          | true =>
            by_cases e1 : an = bn
            · have hd : (an != bn) = false := by simp [e1]
              clear e1
              go_wp2_with (first | ((with_reducible refine ((HF.out _ _ (KON.out.keep (by repeat (first | exact Below.refl _ _ | assumption | (refine Below.setCell ?_ (by first | (simp; done) | (simp; omega) | omega) _) | (refine Below.alloc ?_ (by first | (simp; done) | (simp; omega) | omega) _) | (refine Below.drew ?_) | (refine Below.drewN' ?_ _))))).2.2.2.2.1).mono ?_); rintro e w6 ⟨rfl, hb⟩; have hz_w6 := hb.size; (try simp only [World.size_alloc, World.size_setCell, World.size_drew, size_drewN'] at hz_w6); have hb_w6 : Below w1.heap.size w1 w6 := Below.trans (by exact (by repeat (first | exact Below.refl _ _ | assumption | (refine Below.setCell ?_ (by first | (simp; done) | (simp; omega) | omega) _) | (refine Below.alloc ?_ (by first | (simp; done) | (simp; omega) | omega) _) | (refine Below.drew ?_) | (refine Below.drewN' ?_ _)))) (hb.mono (by first | (simp; done) | (simp; omega) | omega)); obtain ⟨hc_w6, hf_w6⟩ := bcell hb_w6; clear hb) | ((with_reducible refine ((HF.out _ _ (KON.out.keep (by repeat (first | exact Below.refl _ _ | assumption | (refine Below.setCell ?_ (by first | (simp; done) | (simp; omega) | omega) _) | (refine Below.alloc ?_ (by first | (simp; done) | (simp; omega) | omega) _) | (refine Below.drew ?_) | (refine Below.drewN' ?_ _))))).2.2.2.2.2.1).mono ?_); rintro e w8 ⟨rfl, hb⟩; have hz_w8 := hb.size; (try simp only [World.size_alloc, World.size_setCell, World.size_drew, size_drewN'] at hz_w8); have hb_w8 : Below w1.heap.size w1 w8 := Below.trans (by exact (by repeat (first | exact Below.refl _ _ | assumption | (refine Below.setCell ?_ (by first | (simp; done) | (simp; omega) | omega) _) | (refine Below.alloc ?_ (by first | (simp; done) | (simp; omega) | omega) _) | (refine Below.drew ?_) | (refine Below.drewN' ?_ _)))) (hb.mono (by first | (simp; done) | (simp; omega) | omega)); obtain ⟨hc_w8, hf_w8⟩ := bcell hb_w8; clear hb) | ((with_reducible refine (awake09_any).mono ?_); rintro e w7 ⟨rfl, hb⟩; have hz_w7 := hb.size; (try simp only [World.size_alloc, World.size_setCell, World.size_drew, size_drewN'] at hz_w7); have hb_w7 : Below w1.heap.size w1 w7 := Below.trans (by exact (by repeat (first | exact Below.refl _ _ | assumption | (refine Below.setCell ?_ (by first | (simp; done) | (simp; omega) | omega) _) | (refine Below.alloc ?_ (by first | (simp; done) | (simp; omega) | omega) _) | (refine Below.drew ?_) | (refine Below.drewN' ?_ _)))) (hb.mono (by first | (simp; done) | (simp; omega) | omega)); obtain ⟨hc_w7, hf_w7⟩ := bcell hb_w7; clear hb))
              go_ret
              exact ⟨rfl, hb_w1.trans (Below.mono (show Below w1.heap.size w1 _ from (by repeat (first | exact Below.refl _ _ | assumption | (refine Below.setCell ?_ (by first | (simp; done) | (simp; omega) | omega) _) | (refine Below.alloc ?_ (by first | (simp; done) | (simp; omega) | omega) _) | (refine Below.drew ?_) | (refine Below.drewN' ?_ _)))) hz_w1)⟩
            · have hd : (an != bn) = true := by simp [e1]
              obtain ⟨g1, g2⟩ := H5.out rfl rfl e1
              injection g1 with g1 g3
              injection g2 with g2 g4
              subst g1 g2 g3 g4
              clear e1
              go_wp2_with (first | ((with_reducible refine ((HF.out _ _ (KON.out.keep (by repeat (first | exact Below.refl _ _ | assumption | (refine Below.setCell ?_ (by first | (simp; done) | (simp; omega) | omega) _) | (refine Below.alloc ?_ (by first | (simp; done) | (simp; omega) | omega) _) | (refine Below.drew ?_) | (refine Below.drewN' ?_ _))))).2.2.2.2.1).mono ?_); rintro e w6 ⟨rfl, hb⟩; have hz_w6 := hb.size; (try simp only [World.size_alloc, World.size_setCell, World.size_drew, size_drewN'] at hz_w6); have hb_w6 : Below w1.heap.size w1 w6 := Below.trans (by exact (by repeat (first | exact Below.refl _ _ | assumption | (refine Below.setCell ?_ (by first | (simp; done) | (simp; omega) | omega) _) | (refine Below.alloc ?_ (by first | (simp; done) | (simp; omega) | omega) _) | (refine Below.drew ?_) | (refine Below.drewN' ?_ _)))) (hb.mono (by first | (simp; done) | (simp; omega) | omega)); obtain ⟨hc_w6, hf_w6⟩ := bcell hb_w6; clear hb) | ((with_reducible refine ((HF.out _ _ (KON.out.keep (by repeat (first | exact Below.refl _ _ | assumption | (refine Below.setCell ?_ (by first | (simp; done) | (simp; omega) | omega) _) | (refine Below.alloc ?_ (by first | (simp; done) | (simp; omega) | omega) _) | (refine Below.drew ?_) | (refine Below.drewN' ?_ _))))).2.2.2.2.2.1).mono ?_); rintro e w8 ⟨rfl, hb⟩; have hz_w8 := hb.size; (try simp only [World.size_alloc, World.size_setCell, World.size_drew, size_drewN'] at hz_w8); have hb_w8 : Below w1.heap.size w1 w8 := Below.trans (by exact (by repeat (first | exact Below.refl _ _ | assumption | (refine Below.setCell ?_ (by first | (simp; done) | (simp; omega) | omega) _) | (refine Below.alloc ?_ (by first | (simp; done) | (simp; omega) | omega) _) | (refine Below.drew ?_) | (refine Below.drewN' ?_ _)))) (hb.mono (by first | (simp; done) | (simp; omega) | omega)); obtain ⟨hc_w8, hf_w8⟩ := bcell hb_w8; clear hb) | ((with_reducible refine ((HF.out _ _ (KON.out.keep (by repeat (first | exact Below.refl _ _ | assumption | (refine Below.setCell ?_ (by first | (simp; done) | (simp; omega) | omega) _) | (refine Below.alloc ?_ (by first | (simp; done) | (simp; omega) | omega) _) | (refine Below.drew ?_) | (refine Below.drewN' ?_ _))))).2.2.2.2.2.2.2.1).mono ?_); rintro e w9 ⟨rfl, hb⟩; have hz_w9 := hb.size; (try simp only [World.size_alloc, World.size_setCell, World.size_drew, size_drewN'] at hz_w9); have hb_w9 : Below w1.heap.size w1 w9 := Below.trans (by exact (by repeat (first | exact Below.refl _ _ | assumption | (refine Below.setCell ?_ (by first | (simp; done) | (simp; omega) | omega) _) | (refine Below.alloc ?_ (by first | (simp; done) | (simp; omega) | omega) _) | (refine Below.drew ?_) | (refine Below.drewN' ?_ _)))) (hb.mono (by first | (simp; done) | (simp; omega) | omega)); obtain ⟨hc_w9, hf_w9⟩ := bcell hb_w9; clear hb) | ((with_reducible refine (awake09_any).mono ?_); rintro e w7 ⟨rfl, hb⟩; have hz_w7 := hb.size; (try simp only [World.size_alloc, World.size_setCell, World.size_drew, size_drewN'] at hz_w7); have hb_w7 : Below w1.heap.size w1 w7 := Below.trans (by exact (by repeat (first | exact Below.refl _ _ | assumption | (refine Below.setCell ?_ (by first | (simp; done) | (simp; omega) | omega) _) | (refine Below.alloc ?_ (by first | (simp; done) | (simp; omega) | omega) _) | (refine Below.drew ?_) | (refine Below.drewN' ?_ _)))) (hb.mono (by first | (simp; done) | (simp; omega) | omega)); obtain ⟨hc_w7, hf_w7⟩ := bcell hb_w7; clear hb))
              (refine wp_region_quiet_below (by kernel_rfl) (by kernel_rfl) ?_; (repeat (go_big_quiet_step (first | ((with_reducible refine quietRet (HF.out _ _ (KON.out.keep ?_)).2.2.2.2.2.2.1); exact Below.trans (by exact (by repeat (first | exact Below.refl _ _ | assumption | (refine Below.setCell ?_ (by first | (simp; done) | (simp; omega) | omega) _) | (refine Below.alloc ?_ (by first | (simp; done) | (simp; omega) | omega) _) | (refine Below.drew ?_) | (refine Below.drewN' ?_ _)))) ((below_regrown _ _ _).mono (by first | (simp; done) | (simp; omega) | omega))) | ((with_reducible refine quietRet (HF.out _ _ (KON.out.keep ?_)).2.2.2.2.2.2.2.2); exact Below.trans (by exact (by repeat (first | exact Below.refl _ _ | assumption | (refine Below.setCell ?_ (by first | (simp; done) | (simp; omega) | omega) _) | (refine Below.alloc ?_ (by first | (simp; done) | (simp; omega) | omega) _) | (refine Below.drew ?_) | (refine Below.drewN' ?_ _)))) ((below_regrown _ _ _).mono (by first | (simp; done) | (simp; omega) | omega)))))); refine wpQuiet_nil ?_; intro w10 hw'; have hb := below_class hw'; clear hw'; have hz_w10 := hb.size; (try simp only [World.size_alloc, World.size_setCell, World.size_drew, size_drewN'] at hz_w10); have hb_w10 : Below w1.heap.size w1 w10 := Below.trans (by exact (by repeat (first | exact Below.refl _ _ | assumption | (refine Below.setCell ?_ (by first | (simp; done) | (simp; omega) | omega) _) | (refine Below.alloc ?_ (by first | (simp; done) | (simp; omega) | omega) _) | (refine Below.drew ?_) | (refine Below.drewN' ?_ _)))) (hb.mono (by first | (simp; done) | (simp; omega) | omega)); obtain ⟨hc_w10, hf_w10⟩ := bcell hb_w10; clear hb)
              go_wp2_with (first | ((with_reducible refine (awake09_any).mono ?_); rintro e w7 ⟨rfl, hb⟩; have hz_w7 := hb.size; (try simp only [World.size_alloc, World.size_setCell, World.size_drew, size_drewN'] at hz_w7); have hb_w7 : Below w1.heap.size w1 w7 := Below.trans (by exact (by repeat (first | exact Below.refl _ _ | assumption | (refine Below.setCell ?_ (by first | (simp; done) | (simp; omega) | omega) _) | (refine Below.alloc ?_ (by first | (simp; done) | (simp; omega) | omega) _) | (refine Below.drew ?_) | (refine Below.drewN' ?_ _)))) (hb.mono (by first | (simp; done) | (simp; omega) | omega)); obtain ⟨hc_w7, hf_w7⟩ := bcell hb_w7; clear hb))
              go_ret
              exact ⟨rfl, hb_w1.trans (Below.mono (show Below w1.heap.size w1 _ from (by repeat (first | exact Below.refl _ _ | assumption | (refine Below.setCell ?_ (by first | (simp; done) | (simp; omega) | omega) _) | (refine Below.alloc ?_ (by first | (simp; done) | (simp; omega) | omega) _) | (refine Below.drew ?_) | (refine Below.drewN' ?_ _)))) hz_w1)⟩
end Go.Proofs.Ytnnjlpkjpbbklaa
