/-
  DomBack walked: it returns true. Conditions: the calls lie in memory.
-/
import Derived.Test.YtnnjlpkjpbbklaaPlayed
set_option linter.unusedVariables false
set_option linter.unusedSimpArgs false
namespace Go.Proofs.Ytnnjlpkjpbbklaa
open Go.RowKit

/-- A plain tree in a variable of its own. -/
def BoxV (w : World) (B : Nat) (V : VN) : Prop := At w B 41 V.cells.toArray

/-- A plain tree that was told lies there, and in a variable. -/
structure ToldV (base : Nat) (w : World) (B : Nat) (V : VN) (n : PNode) : Prop where
  box : BoxV w B V
  pv : PV w (fun b => base ≤ b ∧ b < w.heap.size) V
  node : V.node = n
  ge : base ≤ B

theorem ToldV.only {base B : Nat} {w w' : World} {V : VN} {n : PNode} {S : Nat → Prop} (h : ToldV base w B V n) (ho : Only S w w') (hS : ∀ b, S b → b < base) : ToldV base w' B V n := by
  have hz := ho.size
  refine ⟨(ho.block B h.box.lt (fun hx => by have := hS _ hx; have := h.ge; omega)).trans h.box, (h.pv.keep fun b hb => ho.block b hb.2 (fun hx => by have := hS _ hx; omega)).mono fun b hb => ⟨hb.1, by omega⟩, h.node, h.ge⟩

theorem ToldV.make {base B B2 : Nat} {w2 w' : World} {V : VN} {n : PNode} {X : Prop} (hV : V.node = n ∧ PV w2 (Since B2 w2) V ∧ X) (hB : base ≤ B2) (hb : Below w2.heap.size w2 w') (box : BoxV w' B V) (ge : base ≤ B) : ToldV base w' B V n := by
  have hz := hb.size
  exact ⟨box, (hV.2.1.keepB hb fun b hb => hb.2).mono fun b hb => ⟨Nat.le_trans hB hb.1, Nat.lt_of_lt_of_le hb.2 hz⟩, hV.1, ge⟩

/-- SameNode of a tree just told and one that was told. -/
theorem ToldV.same {base B : Nat} {w : World} {V U : VN} {n : PNode} {R : Nat → Prop} (h : ToldV base w B V n) (hU : PV w R U) (hR : ∀ b, R b → b < w.heap.size) (e : U.node = n) (hs : n.small) (ht : n.thin) :
    Calls Try.prog 41 #[U.agg, V.agg] w (Ret (.bool true) w) :=
  sameNode_eq U V R _ w hU h.pv (by rw [e, h.node]) (by rw [e]; exact hs) (by rw [e]; exact ht) hR (fun b hb => hb.2)


set_option maxRecDepth 100000 in
set_option maxHeartbeats 8000000 in
theorem domBack_any {w : World} {R : Nat → Prop} {v : Value} {l : List CN} (h : CallsAt w R v l) (hR : ∀ b, R b → b < w.heap.size) (cap dep id parent pos : Int) :
    Calls Try.prog 8 #[I cap, I dep, v, I id, I parent, I pos] w (Ret (.bool true) w) := by
  obtain ⟨A, vcap, hv, hcap, hmx, -⟩ := h.row.form
  have HHe := Lib.hid (heavy_any h hR)
  cases hhe : heavy (l.map CN.call) with
  | true =>
    rw [hhe] at HHe
    subst hv
    clear h hhe
    generalize l.length = n at *
    go_enter Try.func8, Try.ntmps8
    go_wp2_with (first | ((with_reducible refine (HHe.out).mono ?_); rintro e w1 ⟨rfl, hb⟩; have hz_w1 := hb.size; (try simp only [World.size_alloc, World.size_setCell, World.size_drew, size_drewN'] at hz_w1); have hb_w1 : Below w.heap.size w w1 := Below.trans (by exact (by repeat (first | exact Below.refl _ _ | assumption | (refine Below.setCell ?_ (by first | (simp; done) | (simp; omega) | omega) _) | (refine Below.alloc ?_ (by first | (simp; done) | (simp; omega) | omega) _) | (refine Below.drew ?_) | (refine Below.drewN' ?_ _)))) (hb.mono (by first | (simp; done) | (simp; omega) | omega)); obtain ⟨hc_w1, hf_w1⟩ := bcell hb_w1; clear hb) | ((with_reducible refine (awake08_any).mono ?_); rintro e w2 ⟨rfl, hb⟩; have hz_w2 := hb.size; (try simp only [World.size_alloc, World.size_setCell, World.size_drew, size_drewN'] at hz_w2); have hb_w2 : Below w.heap.size w w2 := Below.trans (by exact (by repeat (first | exact Below.refl _ _ | assumption | (refine Below.setCell ?_ (by first | (simp; done) | (simp; omega) | omega) _) | (refine Below.alloc ?_ (by first | (simp; done) | (simp; omega) | omega) _) | (refine Below.drew ?_) | (refine Below.drewN' ?_ _)))) (hb.mono (by first | (simp; done) | (simp; omega) | omega)); obtain ⟨hc_w2, hf_w2⟩ := bcell hb_w2; clear hb))
    go_ret
    exact ⟨rfl, (by repeat (first | exact Below.refl _ _ | assumption | (refine Below.setCell ?_ (by first | (simp; done) | (simp; omega) | omega) _) | (refine Below.alloc ?_ (by first | (simp; done) | (simp; omega) | omega) _) | (refine Below.drew ?_) | (refine Below.drewN' ?_ _)))⟩
  | false =>
    rw [hhe] at HHe
    obtain ⟨hn, hlt0⟩ := heavy_light hhe
    rw [List.length_map] at hn
    have hlt : ∀ c ∈ l, Light c.call := fun c hc => hlt0 _ (List.mem_map.2 ⟨c, hc, rfl⟩)
    cases hok : newOk cap dep with
    | false =>
      have HPl := Lib.hid (fun (W : World) => played_no (w := W) (v := v) hok)
      subst hv
      clear h hhe hlt0 hlt hok
      generalize l.length = n at *
      go_enter Try.func8, Try.ntmps8
      go_wp2_with (first | ((with_reducible refine (HHe.out).mono ?_); rintro e w1 ⟨rfl, hb⟩; have hz_w1 := hb.size; (try simp only [World.size_alloc, World.size_setCell, World.size_drew, size_drewN'] at hz_w1); have hb_w1 : Below w.heap.size w w1 := Below.trans (by exact (by repeat (first | exact Below.refl _ _ | assumption | (refine Below.setCell ?_ (by first | (simp; done) | (simp; omega) | omega) _) | (refine Below.alloc ?_ (by first | (simp; done) | (simp; omega) | omega) _) | (refine Below.drew ?_) | (refine Below.drewN' ?_ _)))) (hb.mono (by first | (simp; done) | (simp; omega) | omega)); obtain ⟨hc_w1, hf_w1⟩ := bcell hb_w1; clear hb) | ((with_reducible refine (HPl.out _).mono ?_); rintro e w2 ⟨rfl, hb⟩; have hz_w2 := hb.size; (try simp only [World.size_alloc, World.size_setCell, World.size_drew, size_drewN'] at hz_w2); have hb_w2 : Below w.heap.size w w2 := Below.trans (by exact (by repeat (first | exact Below.refl _ _ | assumption | (refine Below.setCell ?_ (by first | (simp; done) | (simp; omega) | omega) _) | (refine Below.alloc ?_ (by first | (simp; done) | (simp; omega) | omega) _) | (refine Below.drew ?_) | (refine Below.drewN' ?_ _)))) (hb.mono (by first | (simp; done) | (simp; omega) | omega)); obtain ⟨hc_w2, hf_w2⟩ := bcell hb_w2; clear hb) | ((with_reducible refine (awake08_any).mono ?_); rintro e w3 ⟨rfl, hb⟩; have hz_w3 := hb.size; (try simp only [World.size_alloc, World.size_setCell, World.size_drew, size_drewN'] at hz_w3); have hb_w3 : Below w.heap.size w w3 := Below.trans (by exact (by repeat (first | exact Below.refl _ _ | assumption | (refine Below.setCell ?_ (by first | (simp; done) | (simp; omega) | omega) _) | (refine Below.alloc ?_ (by first | (simp; done) | (simp; omega) | omega) _) | (refine Below.drew ?_) | (refine Below.drewN' ?_ _)))) (hb.mono (by first | (simp; done) | (simp; omega) | omega)); obtain ⟨hc_w3, hf_w3⟩ := bcell hb_w3; clear hb))
      go_ret
      exact ⟨rfl, (by repeat (first | exact Below.refl _ _ | assumption | (refine Below.setCell ?_ (by first | (simp; done) | (simp; omega) | omega) _) | (refine Below.alloc ?_ (by first | (simp; done) | (simp; omega) | omega) _) | (refine Below.drew ?_) | (refine Below.drewN' ?_ _)))⟩
    | true =>
      have HPl : Hid (∀ W, Below w.heap.size w W → Calls Try.prog 32 #[I cap, I dep, v] W fun e w' => ∃ tb, e = .returned (.pointer (some ⟨tb, 0, none⟩)) ∧ Sat tb (fun _ => False) W ((DT.new cap dep).play anew (l.map CN.call)) w') := fun W hb =>
        played_ok (h.keep fun b hb1 => hb.block b (hR b hb1)) (fun b hb1 => Nat.lt_of_lt_of_le (hR b hb1) hb.size) hlt hn hok
      subst hv
      clear h hhe hlt0 hlt hok
      generalize (DT.new cap dep).play anew (l.map CN.call) = T at *
      generalize l.length = n at *
      go_enter Try.func8, Try.ntmps8
      go_upto_region 4 with (first | ((with_reducible refine (HHe.out).mono ?_); rintro e w1 ⟨rfl, hb⟩; have hz_w1 := hb.size; (try simp only [World.size_alloc, World.size_setCell, World.size_drew, size_drewN'] at hz_w1); have hb_w1 : Below w.heap.size w w1 := Below.trans (by exact (by repeat (first | exact Below.refl _ _ | assumption | (refine Below.setCell ?_ (by first | (simp; done) | (simp; omega) | omega) _) | (refine Below.alloc ?_ (by first | (simp; done) | (simp; omega) | omega) _) | (refine Below.drew ?_) | (refine Below.drewN' ?_ _)))) (hb.mono (by first | (simp; done) | (simp; omega) | omega)); obtain ⟨hc_w1, hf_w1⟩ := bcell hb_w1; clear hb) | ((with_reducible refine (HPl.out _ (by repeat (first | exact Below.refl _ _ | assumption | (refine Below.setCell ?_ (by first | (simp; done) | (simp; omega) | omega) _) | (refine Below.alloc ?_ (by first | (simp; done) | (simp; omega) | omega) _) | (refine Below.drew ?_) | (refine Below.drewN' ?_ _)))).mono ?_); rintro e wP ⟨tb, rfl, hs⟩; have hb_wP : Below w.heap.size w wP := Below.trans (by exact (by repeat (first | exact Below.refl _ _ | assumption | (refine Below.setCell ?_ (by first | (simp; done) | (simp; omega) | omega) _) | (refine Below.alloc ?_ (by first | (simp; done) | (simp; omega) | omega) _) | (refine Below.drew ?_) | (refine Below.drewN' ?_ _)))) (hs.old.mono (by first | (simp; done) | (simp; omega) | omega)); have K := Lib.hid hs; clear hs))
      have hzP := hb_wP.size
      have htl := K.out.lt
      by_cases hhas : T.has id = true
      · by_cases hup : 0 ≤ T.upOf id
        · obtain ⟨b1, b2, b3, b4, b5, b6⟩ := K.out.wf.back1 hhas hup
          obtain ⟨S1, hS1, hS2, hS3, -⟩ := K.out.split
          have HS1 := Lib.hid hS1
          have HLift := Lib.hid hS3
          have hWR := K.out.wf.remove id
          have hAR := K.out.ab.remove K.out.wf id
          have sm0 := K.out.wf.plain_small K.out.ab 0
          have sm1 := K.out.wf.plain_small K.out.ab id
          have sm2 := hWR.plain_small hAR 0
          have HHas := Lib.hid (fun (W : World) (hb : Below wP.heap.size wP W) => (K.out.keep hb).has id)
          have HPar := Lib.hid (fun (W : World) (hb : Below wP.heap.size wP W) => (K.out.keep hb).parent id)
          have HIdx := Lib.hid (fun (W : World) (hb : Below wP.heap.size wP W) => (K.out.keep hb).index id)
          have HP0 := Lib.hid (fun (W : World) (hb : Below wP.heap.size wP W) => (K.out.keep hb).plain 0)
          have HP1 := Lib.hid (fun (W : World) (hb : Below wP.heap.size wP W) => (K.out.keep hb).plain id)
          rw [hhas] at HHas
          have c1 : decide (T.upOf id < 0) = false := by simp; omega
          have hback := fun (X : DT) (hX : T.remove id = (0, X)) => (K.out.wf.remove id)
          obtain ⟨R0, hR0⟩ : ∃ R0, T.remove id = (0, R0) := ⟨_, Prod.ext b1 rfl⟩
          rw [hR0] at b2 b3 b4 b5 b6 hWR hAR sm2
          dsimp only at b2 b3 b4 b5 b6 hWR hAR sm2
          have hb2 := fun (h : (R0.insert parent pos id).1 = 0) => hWR.back2 h
          have hno := fun (h : (R0.insert parent pos id).1 ≠ 0) => DT.insert_no h
          -- the calls, wherever the tree stands
          have HRem : Hid (∀ (S : Nat → Prop) W W', Sat tb S W T W' → Calls Try.prog 37 #[.pointer (some ⟨tb, 0, none⟩), I id] W' fun e w' => e = .returned (I 0) ∧ Sat tb S W R0 w') := fun S W W' h => by
            have := h.remove id; rwa [hR0] at this
          have HPaR : Hid (∀ (S : Nat → Prop) W W', Sat tb S W R0 W' → Calls Try.prog 49 #[.pointer (some ⟨tb, 0, none⟩), I id] W' fun e w' => e = .returned (I (-1)) ∧ W' = w') := fun S W W' h => by
            have := h.parent id; rwa [b2] at this
          have HIxR : Hid (∀ (S : Nat → Prop) W W', Sat tb S W R0 W' → Calls Try.prog 50 #[.pointer (some ⟨tb, 0, none⟩), I id] W' fun e w' => e = .returned (I (-1)) ∧ W' = w') := fun S W W' h => by
            have := h.index id; rwa [b3] at this
          have HDeR : Hid (∀ (S : Nat → Prop) W W', Sat tb S W R0 W' → Calls Try.prog 51 #[.pointer (some ⟨tb, 0, none⟩), I id] W' fun e w' => e = .returned (I 0) ∧ W' = w') := fun S W W' h => by
            have := h.depth id; rwa [b4] at this
          have HP1R : Hid (∀ (S : Nat → Prop) W W', Sat tb S W R0 W' → Calls Try.prog 33 #[.pointer (some ⟨tb, 0, none⟩), I id] W' (PlainRet (T.plain id) W')) := fun S W W' h => by
            have := h.plain id; rwa [b5] at this
          have HP0R : Hid (∀ (S : Nat → Prop) W W', Sat tb S W R0 W' → Calls Try.prog 33 #[.pointer (some ⟨tb, 0, none⟩), I 0] W' (PlainRet (R0.plain 0) W')) := fun S W W' h => h.plain 0
          have HInR : Hid (∀ (S : Nat → Prop) W W', Sat tb S W R0 W' → Calls Try.prog 36 #[.pointer (some ⟨tb, 0, none⟩), I parent, I pos, I id] W' fun e w' => e = .returned (I (R0.insert parent pos id).1) ∧ Sat tb S W (R0.insert parent pos id).2 w') := fun S W W' h => h.insert parent pos id
          have HInB : Hid (∀ (S : Nat → Prop) W W', Sat tb S W R0 W' → Calls Try.prog 36 #[.pointer (some ⟨tb, 0, none⟩), I (T.upOf id), I (T.indexOf id), I id] W' fun e w' => e = .returned (I 0) ∧ Sat tb S W T w') := fun S W W' h => by
            have := h.insert (T.upOf id) (T.indexOf id) id; rwa [b6] at this
          have HP0T : Hid (∀ (S : Nat → Prop) W W', Sat tb S W T W' → Calls Try.prog 33 #[.pointer (some ⟨tb, 0, none⟩), I 0] W' (PlainRet (T.plain 0) W')) := fun S W W' h => h.plain 0
          have HSt2 := Lib.hid hS2
          have Hb5 := Lib.hid b5
          have HAR := Lib.hid hAR
          have Hb2 := Lib.hid (And.intro hb2 (And.intro hno hWR))
          have Hsm := Lib.hid (And.intro sm0 (And.intro sm1 sm2))
          clear hhas hup b1 b2 b3 b4 b5 b6 hS1 hS2 hS3 hWR hAR sm0 sm1 sm2 hback hR0 hb2 hno
          generalize hn0 : T.plain 0 = n0 at *
          generalize hn1 : T.plain id = n1 at *
          generalize hn2 : R0.plain 0 = n2 at *
          have Hn := Lib.hid (And.intro hn0 (And.intro hn1 hn2))
          clear hn0 hn1 hn2
          generalize T.upOf id = up at *
          generalize T.indexOf id = ix at *
          go_upto_region 6 with (first | ((with_reducible refine (HHas.out _ (by repeat (first | exact Below.refl _ _ | assumption | (refine Below.setCell ?_ (by first | (simp; done) | (simp; omega) | omega) _) | (refine Below.alloc ?_ (by first | (simp; done) | (simp; omega) | omega) _) | (refine Below.drew ?_) | (refine Below.drewN' ?_ _)))).mono ?_); rintro e w' ⟨rfl, rfl⟩) | ((with_reducible refine (HPar.out _ (by repeat (first | exact Below.refl _ _ | assumption | (refine Below.setCell ?_ (by first | (simp; done) | (simp; omega) | omega) _) | (refine Below.alloc ?_ (by first | (simp; done) | (simp; omega) | omega) _) | (refine Below.drew ?_) | (refine Below.drewN' ?_ _)))).mono ?_); rintro e w' ⟨rfl, rfl⟩))
          go_cut [14, 15] (fun s14 s15 wc => ∃ (B14 B15 : Nat) (Vw Vo : VN), s14 = .pointer (some ⟨B14, 0, none⟩) ∧ s15 = .pointer (some ⟨B15, 0, none⟩) ∧ Below wP.heap.size wP wc ∧ ToldV wP.heap.size wc B14 Vw n0 ∧ ToldV wP.heap.size wc B15 Vo n1)
          case first =>
            go_wp2_with (first
              | ((with_reducible refine (HP0.out _ (by repeat (first | exact Below.refl _ _ | assumption | (refine Below.setCell ?_ (by first | (simp; done) | (simp; omega) | omega) _) | (refine Below.alloc ?_ (by first | (simp; done) | (simp; omega) | omega) _) | (refine Below.drew ?_) | (refine Below.drewN' ?_ _)))).mono ?_); rintro e w2 ⟨⟨t_a, al_a, x_a, av_a, kv_a, ks_a⟩, he, hV1, hV2, hb⟩; dsimp only [VN.agg] at he; subst he; obtain ⟨a5_a, n5_a, c5_a, a6_a, n6_a, c6_a, rfl, rfl⟩ := VN.forms hV2; have hb_w2 : Below w.heap.size w w2 := Below.trans (by exact (by repeat (first | exact Below.refl _ _ | assumption | (refine Below.setCell ?_ (by first | (simp; done) | (simp; omega) | omega) _) | (refine Below.alloc ?_ (by first | (simp; done) | (simp; omega) | omega) _) | (refine Below.drew ?_) | (refine Below.drewN' ?_ _)))) (hb.mono (by first | (simp; done) | (simp; omega) | omega)); have hz_w2 := hb_w2.size; have hbP_w2 : Below wP.heap.size wP w2 := Below.trans (by exact (by repeat (first | exact Below.refl _ _ | assumption | (refine Below.setCell ?_ (by first | (simp; done) | (simp; omega) | omega) _) | (refine Below.alloc ?_ (by first | (simp; done) | (simp; omega) | omega) _) | (refine Below.drew ?_) | (refine Below.drewN' ?_ _)))) (hb.mono (by first | (simp; done) | (simp; omega) | omega)); have hzP_w2 := hbP_w2.size; have HVa := Lib.hid (And.intro hV1 (And.intro hV2 hb)); clear hV1 hV2 hb)
              | ((with_reducible refine (HP1.out _ (by repeat (first | exact Below.refl _ _ | assumption | (refine Below.setCell ?_ (by first | (simp; done) | (simp; omega) | omega) _) | (refine Below.alloc ?_ (by first | (simp; done) | (simp; omega) | omega) _) | (refine Below.drew ?_) | (refine Below.drewN' ?_ _)))).mono ?_); rintro e w3 ⟨⟨t_b, al_b, x_b, av_b, kv_b, ks_b⟩, he, hV1, hV2, hb⟩; dsimp only [VN.agg] at he; subst he; obtain ⟨a5_b, n5_b, c5_b, a6_b, n6_b, c6_b, rfl, rfl⟩ := VN.forms hV2; have hb_w3 : Below w.heap.size w w3 := Below.trans (by exact (by repeat (first | exact Below.refl _ _ | assumption | (refine Below.setCell ?_ (by first | (simp; done) | (simp; omega) | omega) _) | (refine Below.alloc ?_ (by first | (simp; done) | (simp; omega) | omega) _) | (refine Below.drew ?_) | (refine Below.drewN' ?_ _)))) (hb.mono (by first | (simp; done) | (simp; omega) | omega)); have hz_w3 := hb_w3.size; have hbP_w3 : Below wP.heap.size wP w3 := Below.trans (by exact (by repeat (first | exact Below.refl _ _ | assumption | (refine Below.setCell ?_ (by first | (simp; done) | (simp; omega) | omega) _) | (refine Below.alloc ?_ (by first | (simp; done) | (simp; omega) | omega) _) | (refine Below.drew ?_) | (refine Below.drewN' ?_ _)))) (hb.mono (by first | (simp; done) | (simp; omega) | omega)); have hzP_w3 := hbP_w3.size; have hb23 : Below w2.heap.size w2 w3 := Below.trans (by exact (by repeat (first | exact Below.refl _ _ | assumption | (refine Below.setCell ?_ (by first | (simp; done) | (simp; omega) | omega) _) | (refine Below.alloc ?_ (by first | (simp; done) | (simp; omega) | omega) _) | (refine Below.drew ?_) | (refine Below.drewN' ?_ _)))) (hb.mono (by first | (simp; done) | (simp; omega) | omega)); have hz23 := hb23.size; have HVb := Lib.hid (And.intro hV1 (And.intro hV2 hb)); clear hV1 hV2 hb))
            go_meet
            refine ⟨_, _, .mk t_a al_a x_a (.slice a5_a n5_a c5_a) (.slice a6_a n6_a c6_a) ks_a, .mk t_b al_b x_b (.slice a5_b n5_b c5_b) (.slice a6_b n6_b c6_b) ks_b, rfl, rfl, (by repeat (first | exact Below.refl _ _ | assumption | (refine Below.setCell ?_ (by first | (simp; done) | (simp; omega) | omega) _) | (refine Below.alloc ?_ (by first | (simp; done) | (simp; omega) | omega) _) | (refine Below.drew ?_) | (refine Below.drewN' ?_ _))), ToldV.make HVa.out (by first | (simp; done) | (simp; omega) | omega) (by repeat (first | exact Below.refl _ _ | assumption | (refine Below.setCell ?_ (by first | (simp; done) | (simp; omega) | omega) _) | (refine Below.alloc ?_ (by first | (simp; done) | (simp; omega) | omega) _) | (refine Below.drew ?_) | (refine Below.drewN' ?_ _))) (show At _ _ 41 #[I t_a, .slice a5_a n5_a c5_a, .string x_a, .slice a6_a n6_a c6_a] from (by (repeat' (first | (with_reducible assumption) | (with_reducible refine unhid ?_; with_reducible assumption) | (with_reducible refine At.fresh _ _ _ (by first | (simp; done) | (simp; omega) | omega)) | (with_reducible apply At.set') | (with_reducible apply At.far) | (with_reducible apply At.alloc) | (with_reducible apply At.drew) | (with_reducible apply At.drewN) | exact (rfl : Array.setIfInBounds _ _ _ = _) | (refine Ne.symm ?_; simp; done) | (show _ ≠ _; simp; done) | (show _ ≠ _; simp; omega) | (show _ ≠ _; omega))); (first | done | fail))) (by first | (simp; done) | (simp; omega) | omega), ToldV.make HVb.out (by first | (simp; done) | (simp; omega) | omega) (by repeat (first | exact Below.refl _ _ | assumption | (refine Below.setCell ?_ (by first | (simp; done) | (simp; omega) | omega) _) | (refine Below.alloc ?_ (by first | (simp; done) | (simp; omega) | omega) _) | (refine Below.drew ?_) | (refine Below.drewN' ?_ _))) (show At _ _ 41 #[I t_b, .slice a5_b n5_b c5_b, .string x_b, .slice a6_b n6_b c6_b] from (by (repeat' (first | (with_reducible assumption) | (with_reducible refine unhid ?_; with_reducible assumption) | (with_reducible refine At.fresh _ _ _ (by first | (simp; done) | (simp; omega) | omega)) | (with_reducible apply At.set') | (with_reducible apply At.far) | (with_reducible apply At.alloc) | (with_reducible apply At.drew) | (with_reducible apply At.drewN) | exact (rfl : Array.setIfInBounds _ _ _ = _) | (refine Ne.symm ?_; simp; done) | (show _ ≠ _; simp; done) | (show _ ≠ _; simp; omega) | (show _ ≠ _; omega))); (first | done | fail))) (by first | (simp; done) | (simp; omega) | omega)⟩
          case rest =>
            obtain ⟨B14, B15, Vw, Vo, rfl, rfl, hbP2, hVw, hVo⟩ := hcut
            obtain ⟨W2, rfl⟩ : ∃ W2, W2 = wc := ⟨_, rfl⟩
            have HT2 := Lib.hid (HSt2.out W2 hbP2)
            have hb_W2 : Below w.heap.size w W2 := hb_wP.trans (hbP2.mono hzP)
            have hz_W2 := hb_W2.size
            have hzP2 := hbP2.size
            have HVw := Lib.hid hVw
            have HVo := Lib.hid hVo
            have HbP2 := Lib.hid hbP2
            have HTw : Hid (∀ W', Only S1 W2 W' → ToldV wP.heap.size W' B14 Vw n0) := fun W' ho => HVw.out.only ho HS1.out
            have HTo : Hid (∀ W', Only S1 W2 W' → ToldV wP.heap.size W' B15 Vo n1) := fun W' ho => HVo.out.only ho HS1.out
            obtain ⟨tw, alw, xw, w1a, w1b, w1c, w2a, w2b, w2c, ksw, rfl⟩ := VN.kid_open hVw.pv
            obtain ⟨tq, alo, xo, o1a, o1b, o1c, o2a, o2b, o2c, kso, rfl⟩ := VN.kid_open hVo.pv
            have Bw : Hid (∀ W', Only S1 W2 W' → At W' B14 41 #[I tw, .slice w1a w1b w1c, .string xw, .slice w2a w2b w2c]) := fun W' ho => (HTw.out W' ho).box
            have Bo : Hid (∀ W', Only S1 W2 W' → At W' B15 41 #[I tq, .slice o1a o1b o1c, .string xo, .slice o2a o2b o2c]) := fun W' ho => (HTo.out W' ho).box
            have HSo : Hid (∀ W' (U : VN) (Q : Nat → Prop), Only S1 W2 W' → PV W' Q U → (∀ b, Q b → b < W'.heap.size) → U.node = n1 → Calls Try.prog 41 #[U.agg, .agg #[I tq, .slice o1a o1b o1c, .string xo, .slice o2a o2b o2c]] W' (Ret (.bool true) W')) := fun W' U Q ho h1 h2 h3 => (HTo.out W' ho).same h1 h2 h3 Hsm.out.2.1.1 Hsm.out.2.1.2
            have HSw : Hid (∀ W' (U : VN) (Q : Nat → Prop), Only S1 W2 W' → PV W' Q U → (∀ b, Q b → b < W'.heap.size) → U.node = n0 → Calls Try.prog 41 #[U.agg, .agg #[I tw, .slice w1a w1b w1c, .string xw, .slice w2a w2b w2c]] W' (Ret (.bool true) W')) := fun W' U Q ho h1 h2 h3 => (HTw.out W' ho).same h1 h2 h3 Hsm.out.1.1 Hsm.out.1.2
            have b14 := Bw.out W2 (Only.refl _ _)
            have b15 := Bo.out W2 (Only.refl _ _)
            have b14c := b14.cell
            have b15c := b15.cell
            have b14l := b14.lt
            have b15l := b15.lt
            clear hVw hVo hbP2 b14 b15
            go_upto_region 8 with (first | ((with_reducible refine (HIdx.out _ HbP2.out).mono ?_); rintro e w' ⟨rfl, rfl⟩) | ((with_reducible refine (HPar.out _ HbP2.out).mono ?_); rintro e w' ⟨rfl, rfl⟩))
            go_cut [81] (fun s81 wc => s81 = .bool false ∧ Sat tb S1 W2 R0 wc)
            case first =>
              go_region_with (first
                | ((with_reducible refine (HRem.out _ _ _ (HT2.out.keep (by repeat (first | exact Below.refl _ _ | assumption | (refine Below.setCell ?_ (by first | (simp; done) | (simp; omega) | omega) _) | (refine Below.alloc ?_ (by first | (simp; done) | (simp; omega) | omega) _) | (refine Below.drew ?_) | (refine Below.drewN' ?_ _))))).mono ?_); rintro e w3 ⟨rfl, hs3⟩; have K3 := Lib.hid hs3; have hb_w3 : Below w.heap.size w w3 := Below.trans (by exact (by repeat (first | exact Below.refl _ _ | assumption | (refine Below.setCell ?_ (by first | (simp; done) | (simp; omega) | omega) _) | (refine Below.alloc ?_ (by first | (simp; done) | (simp; omega) | omega) _) | (refine Below.drew ?_) | (refine Below.drewN' ?_ _)))) ((HLift.out _ _ _ HbP2.out hs3).old.mono (by first | (simp; done) | (simp; omega) | omega)); have hz_w3 := hb_w3.size; have k15 := Bo.out _ hs3.mut_.2; have k15c := k15.cell; have k15f := k15.frozen; have k15l := k15.lt; have k15h := Lib.hid k15; clear hs3 k15)
                | ((with_reducible refine (HPaR.out _ _ _ (K3.out.keep (by repeat (first | exact Below.refl _ _ | assumption | (refine Below.setCell ?_ (by first | (simp; done) | (simp; omega) | omega) _) | (refine Below.alloc ?_ (by first | (simp; done) | (simp; omega) | omega) _) | (refine Below.drew ?_) | (refine Below.drewN' ?_ _))))).mono ?_); rintro e w' ⟨rfl, rfl⟩)
                | ((with_reducible refine (HIxR.out _ _ _ (K3.out.keep (by repeat (first | exact Below.refl _ _ | assumption | (refine Below.setCell ?_ (by first | (simp; done) | (simp; omega) | omega) _) | (refine Below.alloc ?_ (by first | (simp; done) | (simp; omega) | omega) _) | (refine Below.drew ?_) | (refine Below.drewN' ?_ _))))).mono ?_); rintro e w' ⟨rfl, rfl⟩)
                | ((with_reducible refine (HDeR.out _ _ _ (K3.out.keep (by repeat (first | exact Below.refl _ _ | assumption | (refine Below.setCell ?_ (by first | (simp; done) | (simp; omega) | omega) _) | (refine Below.alloc ?_ (by first | (simp; done) | (simp; omega) | omega) _) | (refine Below.drew ?_) | (refine Below.drewN' ?_ _))))).mono ?_); rintro e w' ⟨rfl, rfl⟩)
                | ((with_reducible refine (HP1R.out _ _ _ (K3.out.keep (by repeat (first | exact Below.refl _ _ | assumption | (refine Below.setCell ?_ (by first | (simp; done) | (simp; omega) | omega) _) | (refine Below.alloc ?_ (by first | (simp; done) | (simp; omega) | omega) _) | (refine Below.drew ?_) | (refine Below.drewN' ?_ _))))).mono ?_); rintro e w4 ⟨⟨t_c, al_c, x_c, av_c, kv_c, ks_c⟩, he, hV1, hV2, hb⟩; dsimp only [VN.agg] at he; subst he; obtain ⟨a5_c, n5_c, c5_c, a6_c, n6_c, c6_c, rfl, rfl⟩ := VN.forms hV2; have hb_w4 : Below w.heap.size w w4 := Below.trans (by exact (by repeat (first | exact Below.refl _ _ | assumption | (refine Below.setCell ?_ (by first | (simp; done) | (simp; omega) | omega) _) | (refine Below.alloc ?_ (by first | (simp; done) | (simp; omega) | omega) _) | (refine Below.drew ?_) | (refine Below.drewN' ?_ _)))) (hb.mono (by first | (simp; done) | (simp; omega) | omega)); have hz_w4 := hb_w4.size; have hb34 : Below w3.heap.size w3 w4 := Below.trans (by exact (by repeat (first | exact Below.refl _ _ | assumption | (refine Below.setCell ?_ (by first | (simp; done) | (simp; omega) | omega) _) | (refine Below.alloc ?_ (by first | (simp; done) | (simp; omega) | omega) _) | (refine Below.drew ?_) | (refine Below.drewN' ?_ _)))) (hb.mono (by first | (simp; done) | (simp; omega) | omega)); have hz34 := hb34.size; have k15 := k15h.out.keep hb34; have k15d := k15.cell; have HS4 := Lib.hid (fun (W : World) (hbW : Below w4.heap.size w4 W) => HSo.out W _ _ ((K3.out.keep (hb34.trans (hbW.mono hb34.size))).mut_.2) (hV2.keepB hbW fun b hb1 => hb1.2) (fun b hb1 => Nat.lt_of_lt_of_le hb1.2 hbW.size) hV1); dsimp only [VN.agg] at HS4; clear hV1 hV2 hb k15)
                | ((with_reducible refine (HS4.out _ (by repeat (first | exact Below.refl _ _ | assumption | (refine Below.setCell ?_ (by first | (simp; done) | (simp; omega) | omega) _) | (refine Below.alloc ?_ (by first | (simp; done) | (simp; omega) | omega) _) | (refine Below.drew ?_) | (refine Below.drewN' ?_ _)))).mono ?_); rintro e w5 ⟨rfl, hb⟩; have hz_w5 := hb.size; (try simp only [World.size_alloc, World.size_setCell, World.size_drew, size_drewN'] at hz_w5); have hb_w5 : Below w3.heap.size w3 w5 := Below.trans (by exact (by repeat (first | exact Below.refl _ _ | assumption | (refine Below.setCell ?_ (by first | (simp; done) | (simp; omega) | omega) _) | (refine Below.alloc ?_ (by first | (simp; done) | (simp; omega) | omega) _) | (refine Below.drew ?_) | (refine Below.drewN' ?_ _)))) (hb.mono (by first | (simp; done) | (simp; omega) | omega)); obtain ⟨hc_w5, hf_w5⟩ := bcell hb_w5; clear hb))
              all_goals
                go_wp2_with fail
                go_meet
                exact ⟨rfl, K3.out.keep hb_w5⟩
            case rest =>
              obtain ⟨rfl, hs3⟩ := hcut
              obtain ⟨w3, rfl⟩ : ∃ w3, w3 = wc := ⟨_, rfl⟩
              have K3 := Lib.hid hs3
              have hb_w3 : Below w.heap.size w w3 := Below.trans (by exact (by repeat (first | exact Below.refl _ _ | assumption | (refine Below.setCell ?_ (by first | (simp; done) | (simp; omega) | omega) _) | (refine Below.alloc ?_ (by first | (simp; done) | (simp; omega) | omega) _) | (refine Below.drew ?_) | (refine Below.drewN' ?_ _)))) ((HLift.out _ _ _ HbP2.out hs3).old.mono (by first | (simp; done) | (simp; omega) | omega))
              have hz_w3 := hb_w3.size
              have hz23 := hs3.size
              clear hs3
              go_upto_region 10 with fail
              go_cut [18] (fun s18 wc => ∃ (B18 : Nat) (Vr : VN), s18 = .pointer (some ⟨B18, 0, none⟩) ∧ Below w3.heap.size w3 wc ∧ ToldV w3.heap.size wc B18 Vr n2)
              case first =>
                go_wp2_with ((with_reducible refine (HP0R.out _ _ _ (K3.out.keep (by repeat (first | exact Below.refl _ _ | assumption | (refine Below.setCell ?_ (by first | (simp; done) | (simp; omega) | omega) _) | (refine Below.alloc ?_ (by first | (simp; done) | (simp; omega) | omega) _) | (refine Below.drew ?_) | (refine Below.drewN' ?_ _))))).mono ?_); rintro e w6 ⟨⟨t_d, al_d, x_d, av_d, kv_d, ks_d⟩, he, hV1, hV2, hb⟩; dsimp only [VN.agg] at he; subst he; obtain ⟨a5_d, n5_d, c5_d, a6_d, n6_d, c6_d, rfl, rfl⟩ := VN.forms hV2; have hb_w6 : Below w.heap.size w w6 := Below.trans (by exact (by repeat (first | exact Below.refl _ _ | assumption | (refine Below.setCell ?_ (by first | (simp; done) | (simp; omega) | omega) _) | (refine Below.alloc ?_ (by first | (simp; done) | (simp; omega) | omega) _) | (refine Below.drew ?_) | (refine Below.drewN' ?_ _)))) (hb.mono (by first | (simp; done) | (simp; omega) | omega)); have hz_w6 := hb_w6.size; have hb36 : Below w3.heap.size w3 w6 := Below.trans (by exact (by repeat (first | exact Below.refl _ _ | assumption | (refine Below.setCell ?_ (by first | (simp; done) | (simp; omega) | omega) _) | (refine Below.alloc ?_ (by first | (simp; done) | (simp; omega) | omega) _) | (refine Below.drew ?_) | (refine Below.drewN' ?_ _)))) (hb.mono (by first | (simp; done) | (simp; omega) | omega)); have hz36 := hb36.size; have HVd := Lib.hid (And.intro hV1 (And.intro hV2 hb)); clear hV1 hV2 hb)
                go_meet
                exact ⟨_, .mk t_d al_d x_d (.slice a5_d n5_d c5_d) (.slice a6_d n6_d c6_d) ks_d, rfl, (by repeat (first | exact Below.refl _ _ | assumption | (refine Below.setCell ?_ (by first | (simp; done) | (simp; omega) | omega) _) | (refine Below.alloc ?_ (by first | (simp; done) | (simp; omega) | omega) _) | (refine Below.drew ?_) | (refine Below.drewN' ?_ _))), ToldV.make HVd.out (by first | (simp; done) | (simp; omega) | omega) (by repeat (first | exact Below.refl _ _ | assumption | (refine Below.setCell ?_ (by first | (simp; done) | (simp; omega) | omega) _) | (refine Below.alloc ?_ (by first | (simp; done) | (simp; omega) | omega) _) | (refine Below.drew ?_) | (refine Below.drewN' ?_ _))) (show At _ _ 41 #[I t_d, .slice a5_d n5_d c5_d, .string x_d, .slice a6_d n6_d c6_d] from (by (repeat' (first | (with_reducible assumption) | (with_reducible refine unhid ?_; with_reducible assumption) | (with_reducible refine At.fresh _ _ _ (by first | (simp; done) | (simp; omega) | omega)) | (with_reducible apply At.set') | (with_reducible apply At.far) | (with_reducible apply At.alloc) | (with_reducible apply At.drew) | (with_reducible apply At.drewN) | exact (rfl : Array.setIfInBounds _ _ _ = _) | (refine Ne.symm ?_; simp; done) | (show _ ≠ _; simp; done) | (show _ ≠ _; simp; omega) | (show _ ≠ _; omega))); (first | done | fail))) (by first | (simp; done) | (simp; omega) | omega)⟩
              case rest =>
                obtain ⟨B18, Vr, rfl, hb37, hVr⟩ := hcut
                obtain ⟨w7, rfl⟩ : ∃ w7, w7 = wc := ⟨_, rfl⟩
                obtain ⟨S2, hS21, hS22, hS23, hS24⟩ := K3.out.split
                have hz37 := hb37.size
                have K7 := Lib.hid (hS22 w7 hb37)
                have hb_w7 : Below w.heap.size w w7 := hb_w3.trans (hb37.mono hz_w3)
                have hz_w7 := hb_w7.size
                have HL2 : Hid (∀ X W', Sat tb S2 w7 X W' → Below w.heap.size w W') := fun X W' h => Below.trans (by exact (by repeat (first | exact Below.refl _ _ | assumption | (refine Below.setCell ?_ (by first | (simp; done) | (simp; omega) | omega) _) | (refine Below.alloc ?_ (by first | (simp; done) | (simp; omega) | omega) _) | (refine Below.drew ?_) | (refine Below.drewN' ?_ _)))) ((HLift.out _ _ _ HbP2.out (hS23 w7 X W' hb37 h)).old.mono (by first | (simp; done) | (simp; omega) | omega))
                have HOn : Hid (∀ W', Only S2 w7 W' → Only S1 W2 W') := fun W' ho => ((K3.out.keep hb37).mut_.2.trans ho) fun i hi hx => by
                  rcases hS24 i hx with h1 | h1
                  · exact h1
                  · omega
                have HTr : Hid (∀ W', Only S2 w7 W' → ToldV w3.heap.size W' B18 Vr n2) := fun W' ho => hVr.only ho hS21
                obtain ⟨tr, alr, xr, r1a, r1b, r1c, r2a, r2b, r2c, ksr, rfl⟩ := VN.kid_open hVr.pv
                have Br : Hid (∀ W', Only S2 w7 W' → At W' B18 41 #[I tr, .slice r1a r1b r1c, .string xr, .slice r2a r2b r2c]) := fun W' ho => (HTr.out W' ho).box
                have HSr : Hid (∀ W' (U : VN) (Q : Nat → Prop), Only S2 w7 W' → PV W' Q U → (∀ b, Q b → b < W'.heap.size) → U.node = n2 → Calls Try.prog 41 #[U.agg, .agg #[I tr, .slice r1a r1b r1c, .string xr, .slice r2a r2b r2c]] W' (Ret (.bool true) W')) := fun W' U Q ho h1 h2 h3 => (HTr.out W' ho).same h1 h2 h3 Hsm.out.2.2.1 Hsm.out.2.2.2
                clear hS21 hS22 hS23 hS24 hb37 hVr
                by_cases hi : (R0.insert parent pos id).1 = 0
                · obtain ⟨i1, i2, i3, i4⟩ := Hb2.out.1 hi
                  have HPaI : Hid (∀ (S : Nat → Prop) W W', Sat tb S W (R0.insert parent pos id).2 W' → Calls Try.prog 49 #[.pointer (some ⟨tb, 0, none⟩), I id] W' fun e w' => e = .returned (I parent) ∧ W' = w') := fun S W W' h => by
                    have := h.parent id; rwa [i1] at this
                  have HIxI : Hid (∀ (S : Nat → Prop) W W', Sat tb S W (R0.insert parent pos id).2 W' → Calls Try.prog 50 #[.pointer (some ⟨tb, 0, none⟩), I id] W' fun e w' => e = .returned (I pos) ∧ W' = w') := fun S W W' h => by
                    have := h.index id; rwa [i2] at this
                  have HP1I : Hid (∀ (S : Nat → Prop) W W', Sat tb S W (R0.insert parent pos id).2 W' → Calls Try.prog 33 #[.pointer (some ⟨tb, 0, none⟩), I id] W' (PlainRet n1 W')) := fun S W W' h => by
                    have := h.plain id; rwa [i3, Hb5.out] at this
                  have HReI : Hid (∀ (S : Nat → Prop) W W', Sat tb S W (R0.insert parent pos id).2 W' → Calls Try.prog 37 #[.pointer (some ⟨tb, 0, none⟩), I id] W' fun e w' => e = .returned (I 0) ∧ Sat tb S W R0 w') := fun S W W' h => by
                    have := h.remove id; rwa [i4] at this
                  rw [hi] at HInR
                  clear hi i1 i2 i3 i4
                  generalize (R0.insert parent pos id).2 = I0 at *
                  go_upto_region 12 with ((with_reducible refine (HInR.out _ _ _ (K7.out.keep (by repeat (first | exact Below.refl _ _ | assumption | (refine Below.setCell ?_ (by first | (simp; done) | (simp; omega) | omega) _) | (refine Below.alloc ?_ (by first | (simp; done) | (simp; omega) | omega) _) | (refine Below.drew ?_) | (refine Below.drewN' ?_ _))))).mono ?_); rintro e w8 ⟨rfl, hs⟩; have K8 := Lib.hid hs; have hb_w8 : Below w.heap.size w w8 := HL2.out _ _ hs; have hz_w8 := hb_w8.size; have hz7_w8 := hs.size; clear hs)
                  go_cut [122] (fun s122 wc => s122 = .bool false ∧ Sat tb S2 w7 R0 wc)
                  case first =>
                    have b15 := Bo.out w8 (HOn.out _ K8.out.mut_.2)
                    have b15c := b15.cell
                    have b15l := b15.lt
                    have b15h := Lib.hid b15
                    clear b15
                    go_region_with (first
                      | ((with_reducible refine (HPaI.out _ _ _ (K8.out.keep (by repeat (first | exact Below.refl _ _ | assumption | (refine Below.setCell ?_ (by first | (simp; done) | (simp; omega) | omega) _) | (refine Below.alloc ?_ (by first | (simp; done) | (simp; omega) | omega) _) | (refine Below.drew ?_) | (refine Below.drewN' ?_ _))))).mono ?_); rintro e w' ⟨rfl, rfl⟩)
                      | ((with_reducible refine (HIxI.out _ _ _ (K8.out.keep (by repeat (first | exact Below.refl _ _ | assumption | (refine Below.setCell ?_ (by first | (simp; done) | (simp; omega) | omega) _) | (refine Below.alloc ?_ (by first | (simp; done) | (simp; omega) | omega) _) | (refine Below.drew ?_) | (refine Below.drewN' ?_ _))))).mono ?_); rintro e w' ⟨rfl, rfl⟩)
                      | ((with_reducible refine (HP1I.out _ _ _ (K8.out.keep (by repeat (first | exact Below.refl _ _ | assumption | (refine Below.setCell ?_ (by first | (simp; done) | (simp; omega) | omega) _) | (refine Below.alloc ?_ (by first | (simp; done) | (simp; omega) | omega) _) | (refine Below.drew ?_) | (refine Below.drewN' ?_ _))))).mono ?_); rintro e w9 ⟨⟨t_f, al_f, x_f, av_f, kv_f, ks_f⟩, he, hV1, hV2, hb⟩; dsimp only [VN.agg] at he; subst he; obtain ⟨a5_f, n5_f, c5_f, a6_f, n6_f, c6_f, rfl, rfl⟩ := VN.forms hV2; have hb_w9 : Below w.heap.size w w9 := Below.trans (by exact (by repeat (first | exact Below.refl _ _ | assumption | (refine Below.setCell ?_ (by first | (simp; done) | (simp; omega) | omega) _) | (refine Below.alloc ?_ (by first | (simp; done) | (simp; omega) | omega) _) | (refine Below.drew ?_) | (refine Below.drewN' ?_ _)))) (hb.mono (by first | (simp; done) | (simp; omega) | omega)); have hz_w9 := hb_w9.size; have hb89 : Below w8.heap.size w8 w9 := Below.trans (by exact (by repeat (first | exact Below.refl _ _ | assumption | (refine Below.setCell ?_ (by first | (simp; done) | (simp; omega) | omega) _) | (refine Below.alloc ?_ (by first | (simp; done) | (simp; omega) | omega) _) | (refine Below.drew ?_) | (refine Below.drewN' ?_ _)))) (hb.mono (by first | (simp; done) | (simp; omega) | omega)); have hz89 := hb89.size; have k15 := b15h.out.keep hb89; have k15d := k15.cell; have HS9 := Lib.hid (fun (W : World) (hbW : Below w9.heap.size w9 W) => HSo.out W _ _ (HOn.out _ (K8.out.keep (hb89.trans (hbW.mono hb89.size))).mut_.2) (hV2.keepB hbW fun b hb1 => hb1.2) (fun b hb1 => Nat.lt_of_lt_of_le hb1.2 hbW.size) hV1); dsimp only [VN.agg] at HS9; clear hV1 hV2 hb k15)
                      | ((with_reducible refine (HS9.out _ (by repeat (first | exact Below.refl _ _ | assumption | (refine Below.setCell ?_ (by first | (simp; done) | (simp; omega) | omega) _) | (refine Below.alloc ?_ (by first | (simp; done) | (simp; omega) | omega) _) | (refine Below.drew ?_) | (refine Below.drewN' ?_ _)))).mono ?_); rintro e w10 ⟨rfl, hb⟩; have hz_w10 := hb.size; (try simp only [World.size_alloc, World.size_setCell, World.size_drew, size_drewN'] at hz_w10); have hb_w10 : Below w8.heap.size w8 w10 := Below.trans (by exact (by repeat (first | exact Below.refl _ _ | assumption | (refine Below.setCell ?_ (by first | (simp; done) | (simp; omega) | omega) _) | (refine Below.alloc ?_ (by first | (simp; done) | (simp; omega) | omega) _) | (refine Below.drew ?_) | (refine Below.drewN' ?_ _)))) (hb.mono (by first | (simp; done) | (simp; omega) | omega)); obtain ⟨hc_w10, hf_w10⟩ := bcell hb_w10; clear hb)
                      | ((with_reducible refine (HReI.out _ _ _ (K8.out.keep (by repeat (first | exact Below.refl _ _ | assumption | (refine Below.setCell ?_ (by first | (simp; done) | (simp; omega) | omega) _) | (refine Below.alloc ?_ (by first | (simp; done) | (simp; omega) | omega) _) | (refine Below.drew ?_) | (refine Below.drewN' ?_ _))))).mono ?_); rintro e w11 ⟨rfl, hs⟩; have K11 := Lib.hid hs; have hb_w11 : Below w.heap.size w w11 := HL2.out _ _ hs; have hz_w11 := hb_w11.size; have hz7_w11 := hs.size; have k18 := Br.out _ hs.mut_.2; have k18c := k18.cell; have k18l := k18.lt; have k18h := Lib.hid k18; clear hs k18)
                      | ((with_reducible refine (HP0R.out _ _ _ (K11.out.keep (by repeat (first | exact Below.refl _ _ | assumption | (refine Below.setCell ?_ (by first | (simp; done) | (simp; omega) | omega) _) | (refine Below.alloc ?_ (by first | (simp; done) | (simp; omega) | omega) _) | (refine Below.drew ?_) | (refine Below.drewN' ?_ _))))).mono ?_); rintro e w12 ⟨⟨t_g, al_g, x_g, av_g, kv_g, ks_g⟩, he, hV1, hV2, hb⟩; dsimp only [VN.agg] at he; subst he; obtain ⟨a5_g, n5_g, c5_g, a6_g, n6_g, c6_g, rfl, rfl⟩ := VN.forms hV2; have hb_w12 : Below w.heap.size w w12 := Below.trans (by exact (by repeat (first | exact Below.refl _ _ | assumption | (refine Below.setCell ?_ (by first | (simp; done) | (simp; omega) | omega) _) | (refine Below.alloc ?_ (by first | (simp; done) | (simp; omega) | omega) _) | (refine Below.drew ?_) | (refine Below.drewN' ?_ _)))) (hb.mono (by first | (simp; done) | (simp; omega) | omega)); have hz_w12 := hb_w12.size; have hb112 : Below w11.heap.size w11 w12 := Below.trans (by exact (by repeat (first | exact Below.refl _ _ | assumption | (refine Below.setCell ?_ (by first | (simp; done) | (simp; omega) | omega) _) | (refine Below.alloc ?_ (by first | (simp; done) | (simp; omega) | omega) _) | (refine Below.drew ?_) | (refine Below.drewN' ?_ _)))) (hb.mono (by first | (simp; done) | (simp; omega) | omega)); have hz112 := hb112.size; have k18 := k18h.out.keep hb112; have k18d := k18.cell; have HS12 := Lib.hid (fun (W : World) (hbW : Below w12.heap.size w12 W) => HSr.out W _ _ (K11.out.keep (hb112.trans (hbW.mono hb112.size))).mut_.2 (hV2.keepB hbW fun b hb1 => hb1.2) (fun b hb1 => Nat.lt_of_lt_of_le hb1.2 hbW.size) hV1); dsimp only [VN.agg] at HS12; clear hV1 hV2 hb k18)
                      | ((with_reducible refine (HS12.out _ (by repeat (first | exact Below.refl _ _ | assumption | (refine Below.setCell ?_ (by first | (simp; done) | (simp; omega) | omega) _) | (refine Below.alloc ?_ (by first | (simp; done) | (simp; omega) | omega) _) | (refine Below.drew ?_) | (refine Below.drewN' ?_ _)))).mono ?_); rintro e w13 ⟨rfl, hb⟩; have hz_w13 := hb.size; (try simp only [World.size_alloc, World.size_setCell, World.size_drew, size_drewN'] at hz_w13); have hb_w13 : Below w11.heap.size w11 w13 := Below.trans (by exact (by repeat (first | exact Below.refl _ _ | assumption | (refine Below.setCell ?_ (by first | (simp; done) | (simp; omega) | omega) _) | (refine Below.alloc ?_ (by first | (simp; done) | (simp; omega) | omega) _) | (refine Below.drew ?_) | (refine Below.drewN' ?_ _)))) (hb.mono (by first | (simp; done) | (simp; omega) | omega)); obtain ⟨hc_w13, hf_w13⟩ := bcell hb_w13; clear hb))
                    all_goals
                      go_wp2_with fail
                      go_meet
                      exact ⟨rfl, K11.out.keep hb_w13⟩
                  case rest =>
                    obtain ⟨rfl, hs8⟩ := hcut
                    obtain ⟨w14, rfl⟩ : ∃ w14, w14 = wc := ⟨_, rfl⟩
                    have K14 := Lib.hid hs8
                    clear hs8
                    go_upto_region 14 with fail
                    have hb_w14 : Below w.heap.size w w14 := HL2.out _ _ K14.out
                    have hz_w14 := hb_w14.size
                    have hz7_w14 := K14.out.size
                    have b14' := Bw.out w14 (HOn.out _ K14.out.mut_.2)
                    have b14c' := b14'.cell
                    have b14l' := b14'.lt
                    clear b14'
                    go_cut [12] (fun s12 wc => s12 = .bool true ∧ Below w.heap.size w wc)
                    case first =>
                      go_region_with (first
                        | ((with_reducible refine (HInB.out _ _ _ (K14.out.keep (by repeat (first | exact Below.refl _ _ | assumption | (refine Below.setCell ?_ (by first | (simp; done) | (simp; omega) | omega) _) | (refine Below.alloc ?_ (by first | (simp; done) | (simp; omega) | omega) _) | (refine Below.drew ?_) | (refine Below.drewN' ?_ _))))).mono ?_); rintro e w15 ⟨rfl, hs⟩; have K15 := Lib.hid hs; have hb_w15 : Below w.heap.size w w15 := HL2.out _ _ hs; have hz_w15 := hb_w15.size; have hz7_w15 := hs.size; have k14 := Bw.out _ (HOn.out _ hs.mut_.2); have k14c := k14.cell; have k14l := k14.lt; have k14h := Lib.hid k14; clear hs k14)
                        | ((with_reducible refine (HP0T.out _ _ _ (K15.out.keep (by repeat (first | exact Below.refl _ _ | assumption | (refine Below.setCell ?_ (by first | (simp; done) | (simp; omega) | omega) _) | (refine Below.alloc ?_ (by first | (simp; done) | (simp; omega) | omega) _) | (refine Below.drew ?_) | (refine Below.drewN' ?_ _))))).mono ?_); rintro e w16 ⟨⟨t_h, al_h, x_h, av_h, kv_h, ks_h⟩, he, hV1, hV2, hb⟩; dsimp only [VN.agg] at he; subst he; obtain ⟨a5_h, n5_h, c5_h, a6_h, n6_h, c6_h, rfl, rfl⟩ := VN.forms hV2; have hb_w16 : Below w.heap.size w w16 := Below.trans (by exact (by repeat (first | exact Below.refl _ _ | assumption | (refine Below.setCell ?_ (by first | (simp; done) | (simp; omega) | omega) _) | (refine Below.alloc ?_ (by first | (simp; done) | (simp; omega) | omega) _) | (refine Below.drew ?_) | (refine Below.drewN' ?_ _)))) (hb.mono (by first | (simp; done) | (simp; omega) | omega)); have hz_w16 := hb_w16.size; have hb156 : Below w15.heap.size w15 w16 := Below.trans (by exact (by repeat (first | exact Below.refl _ _ | assumption | (refine Below.setCell ?_ (by first | (simp; done) | (simp; omega) | omega) _) | (refine Below.alloc ?_ (by first | (simp; done) | (simp; omega) | omega) _) | (refine Below.drew ?_) | (refine Below.drewN' ?_ _)))) (hb.mono (by first | (simp; done) | (simp; omega) | omega)); have hz156 := hb156.size; have k14 := k14h.out.keep hb156; have k14d := k14.cell; have HS16 := Lib.hid (fun (W : World) (hbW : Below w16.heap.size w16 W) => HSw.out W _ _ (HOn.out _ (K15.out.keep (hb156.trans (hbW.mono hb156.size))).mut_.2) (hV2.keepB hbW fun b hb1 => hb1.2) (fun b hb1 => Nat.lt_of_lt_of_le hb1.2 hbW.size) hV1); dsimp only [VN.agg] at HS16; clear hV1 hV2 hb k14)
                        | ((with_reducible refine (HS16.out _ (by repeat (first | exact Below.refl _ _ | assumption | (refine Below.setCell ?_ (by first | (simp; done) | (simp; omega) | omega) _) | (refine Below.alloc ?_ (by first | (simp; done) | (simp; omega) | omega) _) | (refine Below.drew ?_) | (refine Below.drewN' ?_ _)))).mono ?_); rintro e w17 ⟨rfl, hb⟩; have hz_w17 := hb.size; (try simp only [World.size_alloc, World.size_setCell, World.size_drew, size_drewN'] at hz_w17); have hb_w17 : Below w15.heap.size w15 w17 := Below.trans (by exact (by repeat (first | exact Below.refl _ _ | assumption | (refine Below.setCell ?_ (by first | (simp; done) | (simp; omega) | omega) _) | (refine Below.alloc ?_ (by first | (simp; done) | (simp; omega) | omega) _) | (refine Below.drew ?_) | (refine Below.drewN' ?_ _)))) (hb.mono (by first | (simp; done) | (simp; omega) | omega)); obtain ⟨hc_w17, hf_w17⟩ := bcell hb_w17; clear hb)
                        | ((with_reducible refine (awake08_any).mono ?_); rintro e w18 ⟨rfl, hb⟩; have hz_w18 := hb.size; (try simp only [World.size_alloc, World.size_setCell, World.size_drew, size_drewN'] at hz_w18); have hb_w18 : Below w15.heap.size w15 w18 := Below.trans (by exact (by repeat (first | exact Below.refl _ _ | assumption | (refine Below.setCell ?_ (by first | (simp; done) | (simp; omega) | omega) _) | (refine Below.alloc ?_ (by first | (simp; done) | (simp; omega) | omega) _) | (refine Below.drew ?_) | (refine Below.drewN' ?_ _)))) (hb.mono (by first | (simp; done) | (simp; omega) | omega)); obtain ⟨hc_w18, hf_w18⟩ := bcell hb_w18; clear hb))
                      all_goals
                        go_wp2_with fail
                        go_meet
                        exact ⟨rfl, hb_w15.trans (hb_w18.mono hz_w15)⟩
                    case rest =>
                      obtain ⟨rfl, hbF⟩ := hcut
                      go_wp2_with fail
                      go_ret
                      exact ⟨rfl, hbF⟩
                · have e1 := Hb2.out.2.1 hi
                  rw [e1] at HInR
                  have d1 : ((R0.insert parent pos id).1 == 0) = false := by simp [hi]
                  clear hi e1
                  generalize (R0.insert parent pos id).1 = ie at *
                  go_upto_region 14 with ((with_reducible refine (HInR.out _ _ _ (K7.out.keep (by repeat (first | exact Below.refl _ _ | assumption | (refine Below.setCell ?_ (by first | (simp; done) | (simp; omega) | omega) _) | (refine Below.alloc ?_ (by first | (simp; done) | (simp; omega) | omega) _) | (refine Below.drew ?_) | (refine Below.drewN' ?_ _))))).mono ?_); rintro e w14 ⟨rfl, hs⟩; have K14 := Lib.hid hs; clear hs)
                  have hb_w14 : Below w.heap.size w w14 := HL2.out _ _ K14.out
                  have hz_w14 := hb_w14.size
                  have hz7_w14 := K14.out.size
                  have b14' := Bw.out w14 (HOn.out _ K14.out.mut_.2)
                  have b14c' := b14'.cell
                  have b14l' := b14'.lt
                  clear b14'
                  go_cut [12] (fun s12 wc => s12 = .bool true ∧ Below w.heap.size w wc)
                  case first =>
                    go_region_with (first
                      | ((with_reducible refine (HInB.out _ _ _ (K14.out.keep (by repeat (first | exact Below.refl _ _ | assumption | (refine Below.setCell ?_ (by first | (simp; done) | (simp; omega) | omega) _) | (refine Below.alloc ?_ (by first | (simp; done) | (simp; omega) | omega) _) | (refine Below.drew ?_) | (refine Below.drewN' ?_ _))))).mono ?_); rintro e w15 ⟨rfl, hs⟩; have K15 := Lib.hid hs; have hb_w15 : Below w.heap.size w w15 := HL2.out _ _ hs; have hz_w15 := hb_w15.size; have hz7_w15 := hs.size; have k14 := Bw.out _ (HOn.out _ hs.mut_.2); have k14c := k14.cell; have k14l := k14.lt; have k14h := Lib.hid k14; clear hs k14)
                      | ((with_reducible refine (HP0T.out _ _ _ (K15.out.keep (by repeat (first | exact Below.refl _ _ | assumption | (refine Below.setCell ?_ (by first | (simp; done) | (simp; omega) | omega) _) | (refine Below.alloc ?_ (by first | (simp; done) | (simp; omega) | omega) _) | (refine Below.drew ?_) | (refine Below.drewN' ?_ _))))).mono ?_); rintro e w16 ⟨⟨t_h, al_h, x_h, av_h, kv_h, ks_h⟩, he, hV1, hV2, hb⟩; dsimp only [VN.agg] at he; subst he; obtain ⟨a5_h, n5_h, c5_h, a6_h, n6_h, c6_h, rfl, rfl⟩ := VN.forms hV2; have hb_w16 : Below w.heap.size w w16 := Below.trans (by exact (by repeat (first | exact Below.refl _ _ | assumption | (refine Below.setCell ?_ (by first | (simp; done) | (simp; omega) | omega) _) | (refine Below.alloc ?_ (by first | (simp; done) | (simp; omega) | omega) _) | (refine Below.drew ?_) | (refine Below.drewN' ?_ _)))) (hb.mono (by first | (simp; done) | (simp; omega) | omega)); have hz_w16 := hb_w16.size; have hb156 : Below w15.heap.size w15 w16 := Below.trans (by exact (by repeat (first | exact Below.refl _ _ | assumption | (refine Below.setCell ?_ (by first | (simp; done) | (simp; omega) | omega) _) | (refine Below.alloc ?_ (by first | (simp; done) | (simp; omega) | omega) _) | (refine Below.drew ?_) | (refine Below.drewN' ?_ _)))) (hb.mono (by first | (simp; done) | (simp; omega) | omega)); have hz156 := hb156.size; have k14 := k14h.out.keep hb156; have k14d := k14.cell; have HS16 := Lib.hid (fun (W : World) (hbW : Below w16.heap.size w16 W) => HSw.out W _ _ (HOn.out _ (K15.out.keep (hb156.trans (hbW.mono hb156.size))).mut_.2) (hV2.keepB hbW fun b hb1 => hb1.2) (fun b hb1 => Nat.lt_of_lt_of_le hb1.2 hbW.size) hV1); dsimp only [VN.agg] at HS16; clear hV1 hV2 hb k14)
                      | ((with_reducible refine (HS16.out _ (by repeat (first | exact Below.refl _ _ | assumption | (refine Below.setCell ?_ (by first | (simp; done) | (simp; omega) | omega) _) | (refine Below.alloc ?_ (by first | (simp; done) | (simp; omega) | omega) _) | (refine Below.drew ?_) | (refine Below.drewN' ?_ _)))).mono ?_); rintro e w17 ⟨rfl, hb⟩; have hz_w17 := hb.size; (try simp only [World.size_alloc, World.size_setCell, World.size_drew, size_drewN'] at hz_w17); have hb_w17 : Below w15.heap.size w15 w17 := Below.trans (by exact (by repeat (first | exact Below.refl _ _ | assumption | (refine Below.setCell ?_ (by first | (simp; done) | (simp; omega) | omega) _) | (refine Below.alloc ?_ (by first | (simp; done) | (simp; omega) | omega) _) | (refine Below.drew ?_) | (refine Below.drewN' ?_ _)))) (hb.mono (by first | (simp; done) | (simp; omega) | omega)); obtain ⟨hc_w17, hf_w17⟩ := bcell hb_w17; clear hb)
                      | ((with_reducible refine (awake08_any).mono ?_); rintro e w18 ⟨rfl, hb⟩; have hz_w18 := hb.size; (try simp only [World.size_alloc, World.size_setCell, World.size_drew, size_drewN'] at hz_w18); have hb_w18 : Below w15.heap.size w15 w18 := Below.trans (by exact (by repeat (first | exact Below.refl _ _ | assumption | (refine Below.setCell ?_ (by first | (simp; done) | (simp; omega) | omega) _) | (refine Below.alloc ?_ (by first | (simp; done) | (simp; omega) | omega) _) | (refine Below.drew ?_) | (refine Below.drewN' ?_ _)))) (hb.mono (by first | (simp; done) | (simp; omega) | omega)); obtain ⟨hc_w18, hf_w18⟩ := bcell hb_w18; clear hb))
                    all_goals
                      go_wp2_with fail
                      go_meet
                      exact ⟨rfl, hb_w15.trans (hb_w18.mono hz_w15)⟩
                  case rest =>
                    obtain ⟨rfl, hbF⟩ := hcut
                    go_wp2_with fail
                    go_ret
                    exact ⟨rfl, hbF⟩
        · have HHas := Lib.hid (fun (W : World) (hb : Below wP.heap.size wP W) => (K.out.keep hb).has id)
          have HPar := Lib.hid (fun (W : World) (hb : Below wP.heap.size wP W) => (K.out.keep hb).parent id)
          rw [hhas] at HHas
          have c1 : decide (T.upOf id < 0) = true := by simp; omega
          generalize T.upOf id = up at *
          clear hhas hup
          go_wp2_with (first | ((with_reducible refine (HHas.out _ (by repeat (first | exact Below.refl _ _ | assumption | (refine Below.setCell ?_ (by first | (simp; done) | (simp; omega) | omega) _) | (refine Below.alloc ?_ (by first | (simp; done) | (simp; omega) | omega) _) | (refine Below.drew ?_) | (refine Below.drewN' ?_ _)))).mono ?_); rintro e w' ⟨rfl, rfl⟩) | ((with_reducible refine (HPar.out _ (by repeat (first | exact Below.refl _ _ | assumption | (refine Below.setCell ?_ (by first | (simp; done) | (simp; omega) | omega) _) | (refine Below.alloc ?_ (by first | (simp; done) | (simp; omega) | omega) _) | (refine Below.drew ?_) | (refine Below.drewN' ?_ _)))).mono ?_); rintro e w' ⟨rfl, rfl⟩) | ((with_reducible refine (awake08_any).mono ?_); rintro e w3 ⟨rfl, hb⟩; have hz_w3 := hb.size; (try simp only [World.size_alloc, World.size_setCell, World.size_drew, size_drewN'] at hz_w3); have hb_w3 : Below w.heap.size w w3 := Below.trans (by exact (by repeat (first | exact Below.refl _ _ | assumption | (refine Below.setCell ?_ (by first | (simp; done) | (simp; omega) | omega) _) | (refine Below.alloc ?_ (by first | (simp; done) | (simp; omega) | omega) _) | (refine Below.drew ?_) | (refine Below.drewN' ?_ _)))) (hb.mono (by first | (simp; done) | (simp; omega) | omega)); obtain ⟨hc_w3, hf_w3⟩ := bcell hb_w3; clear hb))
          go_ret
          exact ⟨rfl, (by repeat (first | exact Below.refl _ _ | assumption | (refine Below.setCell ?_ (by first | (simp; done) | (simp; omega) | omega) _) | (refine Below.alloc ?_ (by first | (simp; done) | (simp; omega) | omega) _) | (refine Below.drew ?_) | (refine Below.drewN' ?_ _)))⟩
      · have HHas := Lib.hid (fun (W : World) (hb : Below wP.heap.size wP W) => (K.out.keep hb).has id)
        have hf : T.has id = false := by simpa using hhas
        rw [hf] at HHas
        clear hf hhas
        go_wp2_with (first | ((with_reducible refine (HHas.out _ (by repeat (first | exact Below.refl _ _ | assumption | (refine Below.setCell ?_ (by first | (simp; done) | (simp; omega) | omega) _) | (refine Below.alloc ?_ (by first | (simp; done) | (simp; omega) | omega) _) | (refine Below.drew ?_) | (refine Below.drewN' ?_ _)))).mono ?_); rintro e w' ⟨rfl, rfl⟩) | ((with_reducible refine (awake08_any).mono ?_); rintro e w3 ⟨rfl, hb⟩; have hz_w3 := hb.size; (try simp only [World.size_alloc, World.size_setCell, World.size_drew, size_drewN'] at hz_w3); have hb_w3 : Below w.heap.size w w3 := Below.trans (by exact (by repeat (first | exact Below.refl _ _ | assumption | (refine Below.setCell ?_ (by first | (simp; done) | (simp; omega) | omega) _) | (refine Below.alloc ?_ (by first | (simp; done) | (simp; omega) | omega) _) | (refine Below.drew ?_) | (refine Below.drewN' ?_ _)))) (hb.mono (by first | (simp; done) | (simp; omega) | omega)); obtain ⟨hc_w3, hf_w3⟩ := bcell hb_w3; clear hb))
        go_ret
        exact ⟨rfl, (by repeat (first | exact Below.refl _ _ | assumption | (refine Below.setCell ?_ (by first | (simp; done) | (simp; omega) | omega) _) | (refine Below.alloc ?_ (by first | (simp; done) | (simp; omega) | omega) _) | (refine Below.drew ?_) | (refine Below.drewN' ?_ _)))⟩
end Go.Proofs.Ytnnjlpkjpbbklaa
