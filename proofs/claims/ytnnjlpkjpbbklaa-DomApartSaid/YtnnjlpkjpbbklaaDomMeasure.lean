/-
  measure of package dom. Conditions: the plain tree lies in memory; it is not very large.
-/
import Derived.Test.YtnnjlpkjpbbklaaDomCopy
import Derived.Deep.CutBlock
set_option linter.unusedVariables false
set_option linter.unusedSimpArgs false
namespace Go.Proofs.Ytnnjlpkjpbbklaa
open Go.RowKit

namespace PNode
-- not very large
mutual
def small : PNode → Prop
  | .mk _ a x ks => a.length ≤ 200 ∧ x.size ≤ 20000 ∧ smallL ks
def smallL : List PNode → Prop
  | [] => True
  | k :: ks => small k ∧ smallL ks
end
theorem smallL_iff (ks : List PNode) : smallL ks ↔ ∀ k ∈ ks, small k := by
  induction ks with
  | nil => simp [smallL]
  | cons k ks ih => simp only [smallL, List.mem_cons, forall_eq_or_imp, ih]
theorem size_pos (n : PNode) : 0 < n.size := by cases n; unfold size; omega
theorem sizeL_length (ks : List PNode) : ks.length ≤ sizeL ks := by
  induction ks with
  | nil => exact Nat.le_refl _
  | cons k ks ih => rw [sizeL_cons, List.length_cons]; have := k.size_pos; omega
theorem sizeL_append (a b : List PNode) : sizeL (a ++ b) = sizeL a + sizeL b := by
  induction a with
  | nil => simp [sizeL]
  | cons k ks ih => rw [List.cons_append, sizeL_cons, sizeL_cons, ih]; omega
theorem highL_fold (ks : List PNode) (b : Nat) : highL b ks = ks.foldl (fun b k => max b (high k + 1)) b := by
  induction ks generalizing b with
  | nil => rfl
  | cons k ks ih => rw [highL_cons, List.foldl_cons, ih]
theorem highL_append (b : Nat) (l : List PNode) (k : PNode) : highL b (l ++ [k]) = max (highL b l) (high k + 1) := by
  rw [highL_fold, highL_fold, List.foldl_append]; rfl
theorem errL_append (f : Bytes → Bytes) (e : Int) (l : List PNode) (k : PNode) : errL f e (l ++ [k]) = err f (errL f e l) k := by
  induction l generalizing e with
  | nil => rfl
  | cons x l ih => exact ih _
theorem high_size : ∀ n : PNode, n.high < n.size := by
  intro n
  induction n using ind with
  | h t a x ks ih =>
    unfold high size
    rw [highL_fold]
    have key : ∀ (l : List PNode) (b c : Nat), (∀ k ∈ l, high k < size k) → b ≤ c → l.foldl (fun b k => max b (high k + 1)) b ≤ c + sizeL l := by
      intro l
      induction l with
      | nil => intro b c _ h; exact h
      | cons k l ih2 =>
        intro b c h hb
        rw [List.foldl_cons, sizeL_cons]
        have h1 := h k (by simp)
        have := ih2 (max b (high k + 1)) (c + size k) (fun k' hk' => h k' (by simp [hk'])) (by omega)
        omega
    have := key ks 0 0 ih (Nat.le_refl _)
    omega
end PNode

theorem VN.node_mk (t : Int) (al : List (Bytes × Bytes)) (x : Bytes) (av kv : Value) (ks : List VN) : (VN.mk t al x av kv ks).node = .mk t al x (ks.map VN.node) := by
  unfold VN.node; rw [VN.nodeL_map]

theorem nonempty_size (x : Bytes) : (!(ByteArray.toList x).isEmpty) = decide (x.size ≠ 0) := by
  rw [ByteArray.toList_eq]
  have h : x.size = x.data.toList.length := by rw [← ByteArray.size_data]; simp
  rw [h]
  cases x.data.toList <;> simp

/-- The three numbers that measure counts in. -/
structure Cnt (cc hc ec lc : Nat) (c h e : Int) (w : World) : Prop where
  c_ : At w cc 3 #[I c]
  h_ : At w hc 3 #[I h]
  e_ : At w ec 47 #[I e]
  l_ : At w lc 181 #[.func (.func 171) #[] #[.pointer (some ⟨cc, 0, none⟩), .pointer (some ⟨hc, 0, none⟩), .pointer (some ⟨ec, 0, none⟩), .pointer (some ⟨lc, 0, none⟩)]]

set_option maxHeartbeats 2000000 in
theorem measure1_at {cc hc ec lc : Nat} (d1 : cc ≠ hc ∧ cc ≠ ec ∧ cc ≠ lc ∧ hc ≠ ec ∧ hc ≠ lc ∧ ec ≠ lc) : ∀ (V : VN) (R : Nat → Prop) (w : World) (c h e d : Int), PV w R V → (∀ b, R b → b < w.heap.size ∧ b ≠ cc ∧ b ≠ hc ∧ b ≠ ec) → V.node.small → Cnt cc hc ec lc c h e w → 0 ≤ c → c + V.node.size ≤ 1000000 → 0 ≤ h → h ≤ 1000000 → 0 ≤ d → d + V.node.size ≤ 1000000 →
    Calls Try.prog 171 #[V.agg, I d, .pointer (some ⟨cc, 0, none⟩), .pointer (some ⟨hc, 0, none⟩), .pointer (some ⟨ec, 0, none⟩), .pointer (some ⟨lc, 0, none⟩)] w fun r w' => r = .returned (.tuple #[]) ∧ Cnt cc hc ec lc (c + V.node.size) (max h (d + V.node.high)) (V.node.err anew e) w' ∧ Only (fun b => b = cc ∨ b = hc ∨ b = ec) w w' := by
  intro V
  induction V using VN.ind with
  | h t al x av kv ks ih =>
    intro R w c h e d hP hR hs hC hc0 hc1 hh0 hh1 hd0 hd1
    obtain ⟨d12, d13, d14, d23, d24, d34⟩ := d1
    cases hP with
    | mk ha hk hkids =>
      rw [VN.node_mk] at hs hc1 hd1 ⊢
      dsimp only [VN.agg]
      unfold PNode.small at hs
      obtain ⟨hs1, hs2, hs3⟩ := hs
      have hsz : (PNode.mk t al x (ks.map VN.node)).size = PNode.sizeL (ks.map VN.node) + 1 := rfl
      have hkl : ks.length ≤ PNode.sizeL (ks.map VN.node) := by have := PNode.sizeL_length (ks.map VN.node); simpa using this
      rw [hsz] at hc1 hd1
      obtain ⟨AA, ac, hav, hac1, hac2, hA0⟩ := ha.form
      obtain ⟨KA, kc, hkv, hkc1, hkc2, hK0⟩ := hk.form
      have hcc := hC.c_.cell
      have hcf := hC.c_.frozen
      have hcl := hC.c_.lt
      have hhc := hC.h_.cell
      have hhf := hC.h_.frozen
      have hhl := hC.h_.lt
      have hec := hC.e_.cell
      have hef := hC.e_.frozen
      have hel := hC.e_.lt
      have hlc := hC.l_.cell
      have hll := hC.l_.lt
      have HEl := Lib.hid (fun (W : World) => element_any (w := W) t)
      have HAn := Lib.hid (fun (W : World) => anew_any (w := W) x (by omega))
      subst hav hkv
      generalize hAM : al.length = am at *
      generalize hKM : ks.length = km at *
      generalize hSZ : PNode.sizeL (ks.map VN.node) = sz at *
      have HP := Lib.hid (And.intro hAM (And.intro hKM (And.intro hSZ (And.intro ha (And.intro hk (And.intro hkids (And.intro hC hs3)))))))
      have hkml : (km : Int) ≤ 1000000 := by omega
      have haml : (am : Int) ≤ 200 := by omega
      have IH := Lib.hid ih
      have HR := Lib.hid hR
      clear hAM hKM hSZ ha hk hkids hC hs3 ih hA0 hK0 hsz hR
      go_enter Try.func171, Try.ntmps171
      go_upto_block 0 with fail
      have k1 : At (((w.setCell ⟨cc, 0, none⟩ (I (c + 1))).setCell ⟨hc, 0, none⟩ (I (max h d))).alloc (.cells #[I t, .slice AA am ac, .string x, .slice KA km kc] 41)) cc 3 #[I (c + 1)] := (((HP.out.2.2.2.2.2.2.1.c_.set' rfl).far (p := ⟨hc, 0, none⟩) d12 _).alloc _)
      have k2 : At (((w.setCell ⟨cc, 0, none⟩ (I (c + 1))).setCell ⟨hc, 0, none⟩ (I (max h d))).alloc (.cells #[I t, .slice AA am ac, .string x, .slice KA km kc] 41)) hc 3 #[I (max h d)] := (((HP.out.2.2.2.2.2.2.1.h_.far (p := ⟨cc, 0, none⟩) (fun e => d12 e.symm) _).set' rfl).alloc _)
      have k3 : At (((w.setCell ⟨cc, 0, none⟩ (I (c + 1))).setCell ⟨hc, 0, none⟩ (I (max h d))).alloc (.cells #[I t, .slice AA am ac, .string x, .slice KA km kc] 41)) ec 47 #[I e] := (((HP.out.2.2.2.2.2.2.1.e_.far (p := ⟨cc, 0, none⟩) (fun e => d13 e.symm) _).far (p := ⟨hc, 0, none⟩) (fun e => d23 e.symm) _).alloc _)
      have k4 := (((HP.out.2.2.2.2.2.2.1.l_.far (p := ⟨cc, 0, none⟩) (fun e => d14 e.symm) (I (c + 1))).far (p := ⟨hc, 0, none⟩) (fun e => d24 e.symm) (I (max h d))).alloc (.cells #[I t, .slice AA am ac, .string x, .slice KA km kc] 41))
      have k5 : At (((w.setCell ⟨cc, 0, none⟩ (I (c + 1))).setCell ⟨hc, 0, none⟩ (I (max h d))).alloc (.cells #[I t, .slice AA am ac, .string x, .slice KA km kc] 41)) w.heap.size 41 #[I t, .slice AA am ac, .string x, .slice KA km kc] := At.fresh _ _ _ (by simp)
      have k6 : Only (fun b => b = cc ∨ b = hc ∨ b = ec) w (((w.setCell ⟨cc, 0, none⟩ (I (c + 1))).setCell ⟨hc, 0, none⟩ (I (max h d))).alloc (.cells #[I t, .slice AA am ac, .string x, .slice KA km kc] 41)) := by
        refine ⟨rfl, rfl, rfl, by simp, fun b hb hn => ?_⟩
        simp only [not_or] at hn
        rw [Below.heap_alloc _ _ _ (by simpa using hb), Below.heap_setCell _ _ _ _ hn.2.1, Below.heap_setCell _ _ _ _ hn.1]
      generalize (((w.setCell ⟨cc, 0, none⟩ (I (c + 1))).setCell ⟨hc, 0, none⟩ (I (max h d))).alloc (.cells #[I t, .slice AA am ac, .string x, .slice KA km kc] 41)) = W1 at k1 k2 k3 k4 k5 k6 ⊢
      have k5c := k5.cell
      have k5l := k5.lt
      have HK := Lib.hid (And.intro k1 (And.intro k2 (And.intro k3 (And.intro k4 (And.intro k5 k6)))))
      have hz1 := k6.size
      clear k1 k2 k3 k4 k5 k6
      go_cut [8, 18, 19, 48] (fun _ _ _ _ wc => Cnt cc hc ec lc (c + 1) (max h d) (PNode.worse e (PNode.badOne t al x (ks.map VN.node)) (decide (8192 < (anew x).size))) wc ∧ At wc w.heap.size 41 #[I t, .slice AA am ac, .string x, .slice KA km kc] ∧ Only (fun b => b = cc ∨ b = hc ∨ b = ec) w wc)
      case first =>
        go_upto_region 4 with fail
        go_cut [8, 18, 19] (fun _ _ s19 wc => s19 = .bool (PNode.badOne t al x (ks.map VN.node)) ∧ Below W1.heap.size W1 wc)
        case first =>
          have eA : al.isEmpty = decide (am = 0) := by rw [← HP.out.1]; cases al <;> simp
          have eK : (ks.map VN.node).isEmpty = decide (km = 0) := by rw [← HP.out.2.1]; cases ks <;> simp
          by_cases ht : t = 0
          · have c1 : (t == 0) = true := by simp [ht]
            by_cases ha : 0 < am
            · have eB : PNode.badOne t al x (ks.map VN.node) = true := by
                unfold PNode.badOne; rw [if_pos ht, eA, eK]; simp; omega
              have c2 : decide (0 < (am : Int)) = true := by simp; omega
              have c2' : decide (0 < am) = true := by simp; omega
              have HB := Lib.hid eB
              clear ht eA eK eB ha
              go_wp2_with fail
              go_meet
              exact ⟨by rw [HB.out], Below.refl _ _⟩
            · by_cases hk : 0 < km
              · have eB : PNode.badOne t al x (ks.map VN.node) = true := by
                  unfold PNode.badOne; rw [if_pos ht, eA, eK]; simp; omega
                have c2 : decide (0 < (am : Int)) = false := by simp; omega
                have c2' : decide (0 < am) = false := by simp; omega
                have c3 : decide (0 < (km : Int)) = true := by simp; omega
                have c3' : decide (0 < km) = true := by simp; omega
                have HB := Lib.hid eB
                clear ht eA eK eB ha hk
                go_wp2_with fail
                go_meet
                exact ⟨by rw [HB.out], Below.refl _ _⟩
              · have eB : PNode.badOne t al x (ks.map VN.node) = false := by
                  unfold PNode.badOne; rw [if_pos ht, eA, eK]; simp; omega
                have c2 : decide (0 < (am : Int)) = false := by simp; omega
                have c2' : decide (0 < am) = false := by simp; omega
                have c3 : decide (0 < (km : Int)) = false := by simp; omega
                have c3' : decide (0 < km) = false := by simp; omega
                have HB := Lib.hid eB
                clear ht eA eK eB ha hk
                go_wp2_with fail
                go_meet
                exact ⟨by rw [HB.out], Below.refl _ _⟩
          · have c1 : (t == 0) = false := by simp [ht]
            cases he : elementOk t with
            | false =>
              have eB : PNode.badOne t al x (ks.map VN.node) = true := by
                unfold PNode.badOne; rw [if_neg ht, he]; simp
              rw [he] at HEl
              have HB := Lib.hid eB
              clear ht eA eK eB he
              go_wp2_with ((with_reducible refine (HEl.out _).mono ?_); rintro e w2 ⟨rfl, hb⟩; have hz_w2 := hb.size; (try simp only [World.size_alloc, World.size_setCell, World.size_drew, size_drewN'] at hz_w2); have hb_w2 : Below W1.heap.size W1 w2 := Below.trans (by exact (by repeat (first | exact Below.refl _ _ | assumption | (refine Below.setCell ?_ (by first | (simp; done) | (simp; omega) | omega) _) | (refine Below.alloc ?_ (by first | (simp; done) | (simp; omega) | omega) _) | (refine Below.drew ?_) | (refine Below.drewN' ?_ _)))) (hb.mono (by first | (simp; done) | (simp; omega) | omega)); obtain ⟨hc_w2, hf_w2⟩ := bcell hb_w2; clear hb)
              go_meet
              exact ⟨by rw [HB.out], (by repeat (first | exact Below.refl _ _ | assumption | (refine Below.setCell ?_ (by first | (simp; done) | (simp; omega) | omega) _) | (refine Below.alloc ?_ (by first | (simp; done) | (simp; omega) | omega) _) | (refine Below.drew ?_) | (refine Below.drewN' ?_ _)))⟩
            | true =>
              have eB : PNode.badOne t al x (ks.map VN.node) = decide (x.size ≠ 0) := by
                unfold PNode.badOne; rw [if_neg ht, he]; simp
              rw [he] at HEl
              have HB := Lib.hid eB
              clear ht eA eK eB he
              go_wp2_with ((with_reducible refine (HEl.out _).mono ?_); rintro e w2 ⟨rfl, hb⟩; have hz_w2 := hb.size; (try simp only [World.size_alloc, World.size_setCell, World.size_drew, size_drewN'] at hz_w2); have hb_w2 : Below W1.heap.size W1 w2 := Below.trans (by exact (by repeat (first | exact Below.refl _ _ | assumption | (refine Below.setCell ?_ (by first | (simp; done) | (simp; omega) | omega) _) | (refine Below.alloc ?_ (by first | (simp; done) | (simp; omega) | omega) _) | (refine Below.drew ?_) | (refine Below.drewN' ?_ _)))) (hb.mono (by first | (simp; done) | (simp; omega) | omega)); obtain ⟨hc_w2, hf_w2⟩ := bcell hb_w2; clear hb)
              go_meet
              exact ⟨by rw [HB.out, nonempty_size], (by repeat (first | exact Below.refl _ _ | assumption | (refine Below.setCell ?_ (by first | (simp; done) | (simp; omega) | omega) _) | (refine Below.alloc ?_ (by first | (simp; done) | (simp; omega) | omega) _) | (refine Below.drew ?_) | (refine Below.drewN' ?_ _)))⟩
        case rest =>
          obtain ⟨rfl, hb2⟩ := hcut
          obtain ⟨w2, rfl⟩ : ∃ w2, w2 = wc := ⟨_, rfl⟩
          have HB2 := Lib.hid hb2
          generalize hbad : PNode.badOne t al x (ks.map VN.node) = bad
          have HBad := Lib.hid hbad
          have q1 := HK.out.1.keep hb2
          have q2 := HK.out.2.1.keep hb2
          have q3 := HK.out.2.2.1.keep hb2
          have q4 := HK.out.2.2.2.1.keep hb2
          have q5 := HK.out.2.2.2.2.1.keep hb2
          have q6 : Only (fun b => b = cc ∨ b = hc ∨ b = ec) w w2 := HK.out.2.2.2.2.2.trans (Only.of_below (S := fun b => b = cc ∨ b = hc ∨ b = ec) hb2) fun i _ hi => hi
          have q3c := q3.cell
          have q3f := q3.frozen
          have q3l := q3.lt
          have q5c := q5.cell
          have q5l := q5.lt
          have hq1 := Lib.hid q1
          have hq2 := Lib.hid q2
          have hq3 := Lib.hid q3
          have hq5 := Lib.hid q5
          have HQ := Lib.hid (And.intro q1 (And.intro q2 (And.intro q3 (And.intro q4 (And.intro q5 q6)))))
          have hz2 := q6.size
          have hecb : ec ≠ w.heap.size := by omega
          clear hbad hb2 q1 q2 q3 q4 q5 q6
          cases bad with
          | true =>
            go_wp2_with fail
            go_meet
            refine ⟨⟨HQ.out.1.far (p := ⟨ec, 0, none⟩) d13 _, HQ.out.2.1.far (p := ⟨ec, 0, none⟩) d23 _, HQ.out.2.2.1.set' (by rw [HBad.out]; rfl), HQ.out.2.2.2.1.far (p := ⟨ec, 0, none⟩) (fun e => d34 e.symm) _⟩, HQ.out.2.2.2.2.1.far (p := ⟨ec, 0, none⟩) (fun e => hecb e.symm) _, ?_⟩
            refine HQ.out.2.2.2.2.2.trans (S' := fun b => b = ec) ⟨rfl, rfl, rfl, by simp, fun b _ hn => Below.heap_setCell _ _ _ _ hn⟩ fun i _ hi => .inr (.inr hi)
          | false =>
            have hsz : (anew x).size ≤ 4000000 := by
              have h1 := runesBytes_size_le (runesOf x)
              have h2 := runesOf_le x
              unfold anew
              omega
            by_cases hlong : 8192 < (anew x).size
            · have c1 : decide (8192 < ((anew x).size : Int)) = true := by simp; omega
              have c1' : decide (8192 < (anew x).size) = true := by simp; omega
              by_cases he0 : e = 0
              · have c2 : (e == 0) = true := by simp [he0]
                have HE0 : Hid (PNode.worse e (PNode.badOne t al x (ks.map VN.node)) (decide (8192 < (anew x).size)) = 10) := by rw [HBad.out, he0, c1']; rfl
                clear he0 hlong
                generalize anew x = ax at *
                go_wp2_with ((with_reducible refine (HAn.out _).mono ?_); rintro e w3 ⟨rfl, hb⟩; have hz_w3 := hb.size; (try simp only [World.size_alloc, World.size_setCell, World.size_drew, size_drewN'] at hz_w3); have k0_w3 : At w3 (w.heap.size) 41 #[I t, .slice AA am ac, .string x, .slice KA km kc] := At.keep (by (repeat' (first | (with_reducible assumption) | (with_reducible refine unhid ?_; with_reducible assumption) | (with_reducible refine At.fresh _ _ _ (by first | (simp; done) | (simp; omega) | omega)) | (with_reducible apply At.set') | (with_reducible apply At.far) | (with_reducible apply At.alloc) | (with_reducible apply At.drew) | (with_reducible apply At.drewN) | exact (rfl : Array.setIfInBounds _ _ _ = _) | (refine Ne.symm ?_; simp; done) | (show _ ≠ _; simp; done) | (show _ ≠ _; simp; omega) | (show _ ≠ _; omega))); (first | done | fail)) hb; have k0_w3c := At.cell k0_w3; have k0_w3f := At.frozen k0_w3; have k0_w3h := Lib.hid k0_w3; clear k0_w3; have k1_w3 : At w3 (cc) 3 #[I (c + 1)] := At.keep (by (repeat' (first | (with_reducible assumption) | (with_reducible refine unhid ?_; with_reducible assumption) | (with_reducible refine At.fresh _ _ _ (by first | (simp; done) | (simp; omega) | omega)) | (with_reducible apply At.set') | (with_reducible apply At.far) | (with_reducible apply At.alloc) | (with_reducible apply At.drew) | (with_reducible apply At.drewN) | exact (rfl : Array.setIfInBounds _ _ _ = _) | (refine Ne.symm ?_; simp; done) | (show _ ≠ _; simp; done) | (show _ ≠ _; simp; omega) | (show _ ≠ _; omega))); (first | done | fail)) hb; have k1_w3c := At.cell k1_w3; have k1_w3f := At.frozen k1_w3; have k1_w3h := Lib.hid k1_w3; clear k1_w3; have k2_w3 : At w3 (hc) 3 #[I (max h d)] := At.keep (by (repeat' (first | (with_reducible assumption) | (with_reducible refine unhid ?_; with_reducible assumption) | (with_reducible refine At.fresh _ _ _ (by first | (simp; done) | (simp; omega) | omega)) | (with_reducible apply At.set') | (with_reducible apply At.far) | (with_reducible apply At.alloc) | (with_reducible apply At.drew) | (with_reducible apply At.drewN) | exact (rfl : Array.setIfInBounds _ _ _ = _) | (refine Ne.symm ?_; simp; done) | (show _ ≠ _; simp; done) | (show _ ≠ _; simp; omega) | (show _ ≠ _; omega))); (first | done | fail)) hb; have k2_w3c := At.cell k2_w3; have k2_w3f := At.frozen k2_w3; have k2_w3h := Lib.hid k2_w3; clear k2_w3; have k3_w3 : At w3 (ec) 47 #[I e] := At.keep (by (repeat' (first | (with_reducible assumption) | (with_reducible refine unhid ?_; with_reducible assumption) | (with_reducible refine At.fresh _ _ _ (by first | (simp; done) | (simp; omega) | omega)) | (with_reducible apply At.set') | (with_reducible apply At.far) | (with_reducible apply At.alloc) | (with_reducible apply At.drew) | (with_reducible apply At.drewN) | exact (rfl : Array.setIfInBounds _ _ _ = _) | (refine Ne.symm ?_; simp; done) | (show _ ≠ _; simp; done) | (show _ ≠ _; simp; omega) | (show _ ≠ _; omega))); (first | done | fail)) hb; have k3_w3c := At.cell k3_w3; have k3_w3f := At.frozen k3_w3; have k3_w3h := Lib.hid k3_w3; clear k3_w3; have hb_w3 : Below w2.heap.size w2 w3 := Below.trans (by exact (by repeat (first | exact Below.refl _ _ | assumption | (refine Below.setCell ?_ (by first | (simp; done) | (simp; omega) | omega) _) | (refine Below.alloc ?_ (by first | (simp; done) | (simp; omega) | omega) _) | (refine Below.drew ?_) | (refine Below.drewN' ?_ _)))) (hb.mono (by first | (simp; done) | (simp; omega) | omega)); obtain ⟨hc_w3, hf_w3⟩ := bcell hb_w3; clear hb)
                go_meet
                refine ⟨⟨k1_w3h.out.far (p := ⟨ec, 0, none⟩) d13 _, k2_w3h.out.far (p := ⟨ec, 0, none⟩) d23 _, k3_w3h.out.set' (by rw [HE0.out]; rfl), (HQ.out.2.2.2.1.keep hb_w3).far (p := ⟨ec, 0, none⟩) (fun e => d34 e.symm) _⟩, k0_w3h.out.far (p := ⟨ec, 0, none⟩) (fun e => hecb e.symm) _, ?_⟩
                refine (HQ.out.2.2.2.2.2.trans (Only.of_below (S := fun b => b = ec) hb_w3) fun i _ hi => .inr (.inr hi)).trans (S' := fun b => b = ec) ⟨rfl, rfl, rfl, by simp, fun b _ hn => Below.heap_setCell _ _ _ _ hn⟩ fun i _ hi => .inr (.inr hi)
              · have c2 : (e == 0) = false := by simp [he0]
                have HE0 : Hid (PNode.worse e (PNode.badOne t al x (ks.map VN.node)) (decide (8192 < (anew x).size)) = e) := by rw [HBad.out, c1', PNode.worse, c2]; rfl
                clear he0 hlong
                generalize anew x = ax at *
                go_wp2_with ((with_reducible refine (HAn.out _).mono ?_); rintro e w3 ⟨rfl, hb⟩; have hz_w3 := hb.size; (try simp only [World.size_alloc, World.size_setCell, World.size_drew, size_drewN'] at hz_w3); have k0_w3 : At w3 (w.heap.size) 41 #[I t, .slice AA am ac, .string x, .slice KA km kc] := At.keep (by (repeat' (first | (with_reducible assumption) | (with_reducible refine unhid ?_; with_reducible assumption) | (with_reducible refine At.fresh _ _ _ (by first | (simp; done) | (simp; omega) | omega)) | (with_reducible apply At.set') | (with_reducible apply At.far) | (with_reducible apply At.alloc) | (with_reducible apply At.drew) | (with_reducible apply At.drewN) | exact (rfl : Array.setIfInBounds _ _ _ = _) | (refine Ne.symm ?_; simp; done) | (show _ ≠ _; simp; done) | (show _ ≠ _; simp; omega) | (show _ ≠ _; omega))); (first | done | fail)) hb; have k0_w3c := At.cell k0_w3; have k0_w3f := At.frozen k0_w3; have k0_w3h := Lib.hid k0_w3; clear k0_w3; have k1_w3 : At w3 (cc) 3 #[I (c + 1)] := At.keep (by (repeat' (first | (with_reducible assumption) | (with_reducible refine unhid ?_; with_reducible assumption) | (with_reducible refine At.fresh _ _ _ (by first | (simp; done) | (simp; omega) | omega)) | (with_reducible apply At.set') | (with_reducible apply At.far) | (with_reducible apply At.alloc) | (with_reducible apply At.drew) | (with_reducible apply At.drewN) | exact (rfl : Array.setIfInBounds _ _ _ = _) | (refine Ne.symm ?_; simp; done) | (show _ ≠ _; simp; done) | (show _ ≠ _; simp; omega) | (show _ ≠ _; omega))); (first | done | fail)) hb; have k1_w3c := At.cell k1_w3; have k1_w3f := At.frozen k1_w3; have k1_w3h := Lib.hid k1_w3; clear k1_w3; have k2_w3 : At w3 (hc) 3 #[I (max h d)] := At.keep (by (repeat' (first | (with_reducible assumption) | (with_reducible refine unhid ?_; with_reducible assumption) | (with_reducible refine At.fresh _ _ _ (by first | (simp; done) | (simp; omega) | omega)) | (with_reducible apply At.set') | (with_reducible apply At.far) | (with_reducible apply At.alloc) | (with_reducible apply At.drew) | (with_reducible apply At.drewN) | exact (rfl : Array.setIfInBounds _ _ _ = _) | (refine Ne.symm ?_; simp; done) | (show _ ≠ _; simp; done) | (show _ ≠ _; simp; omega) | (show _ ≠ _; omega))); (first | done | fail)) hb; have k2_w3c := At.cell k2_w3; have k2_w3f := At.frozen k2_w3; have k2_w3h := Lib.hid k2_w3; clear k2_w3; have k3_w3 : At w3 (ec) 47 #[I e] := At.keep (by (repeat' (first | (with_reducible assumption) | (with_reducible refine unhid ?_; with_reducible assumption) | (with_reducible refine At.fresh _ _ _ (by first | (simp; done) | (simp; omega) | omega)) | (with_reducible apply At.set') | (with_reducible apply At.far) | (with_reducible apply At.alloc) | (with_reducible apply At.drew) | (with_reducible apply At.drewN) | exact (rfl : Array.setIfInBounds _ _ _ = _) | (refine Ne.symm ?_; simp; done) | (show _ ≠ _; simp; done) | (show _ ≠ _; simp; omega) | (show _ ≠ _; omega))); (first | done | fail)) hb; have k3_w3c := At.cell k3_w3; have k3_w3f := At.frozen k3_w3; have k3_w3h := Lib.hid k3_w3; clear k3_w3; have hb_w3 : Below w2.heap.size w2 w3 := Below.trans (by exact (by repeat (first | exact Below.refl _ _ | assumption | (refine Below.setCell ?_ (by first | (simp; done) | (simp; omega) | omega) _) | (refine Below.alloc ?_ (by first | (simp; done) | (simp; omega) | omega) _) | (refine Below.drew ?_) | (refine Below.drewN' ?_ _)))) (hb.mono (by first | (simp; done) | (simp; omega) | omega)); obtain ⟨hc_w3, hf_w3⟩ := bcell hb_w3; clear hb)
                go_meet
                refine ⟨⟨k1_w3h.out, k2_w3h.out, by rw [HE0.out]; exact k3_w3h.out, HQ.out.2.2.2.1.keep hb_w3⟩, k0_w3h.out, ?_⟩
                exact HQ.out.2.2.2.2.2.trans (Only.of_below (S := fun b => b = ec) hb_w3) fun i _ hi => .inr (.inr hi)
            · have c1 : decide (8192 < ((anew x).size : Int)) = false := by simp; omega
              have c1' : decide (8192 < (anew x).size) = false := by simp; omega
              have HE0 : Hid (PNode.worse e (PNode.badOne t al x (ks.map VN.node)) (decide (8192 < (anew x).size)) = e) := by rw [HBad.out, c1']; rfl
              clear hlong
              generalize anew x = ax at *
              go_wp2_with ((with_reducible refine (HAn.out _).mono ?_); rintro e w3 ⟨rfl, hb⟩; have hz_w3 := hb.size; (try simp only [World.size_alloc, World.size_setCell, World.size_drew, size_drewN'] at hz_w3); have k0_w3 : At w3 (w.heap.size) 41 #[I t, .slice AA am ac, .string x, .slice KA km kc] := At.keep (by (repeat' (first | (with_reducible assumption) | (with_reducible refine unhid ?_; with_reducible assumption) | (with_reducible refine At.fresh _ _ _ (by first | (simp; done) | (simp; omega) | omega)) | (with_reducible apply At.set') | (with_reducible apply At.far) | (with_reducible apply At.alloc) | (with_reducible apply At.drew) | (with_reducible apply At.drewN) | exact (rfl : Array.setIfInBounds _ _ _ = _) | (refine Ne.symm ?_; simp; done) | (show _ ≠ _; simp; done) | (show _ ≠ _; simp; omega) | (show _ ≠ _; omega))); (first | done | fail)) hb; have k0_w3c := At.cell k0_w3; have k0_w3f := At.frozen k0_w3; have k0_w3h := Lib.hid k0_w3; clear k0_w3; have k1_w3 : At w3 (cc) 3 #[I (c + 1)] := At.keep (by (repeat' (first | (with_reducible assumption) | (with_reducible refine unhid ?_; with_reducible assumption) | (with_reducible refine At.fresh _ _ _ (by first | (simp; done) | (simp; omega) | omega)) | (with_reducible apply At.set') | (with_reducible apply At.far) | (with_reducible apply At.alloc) | (with_reducible apply At.drew) | (with_reducible apply At.drewN) | exact (rfl : Array.setIfInBounds _ _ _ = _) | (refine Ne.symm ?_; simp; done) | (show _ ≠ _; simp; done) | (show _ ≠ _; simp; omega) | (show _ ≠ _; omega))); (first | done | fail)) hb; have k1_w3c := At.cell k1_w3; have k1_w3f := At.frozen k1_w3; have k1_w3h := Lib.hid k1_w3; clear k1_w3; have k2_w3 : At w3 (hc) 3 #[I (max h d)] := At.keep (by (repeat' (first | (with_reducible assumption) | (with_reducible refine unhid ?_; with_reducible assumption) | (with_reducible refine At.fresh _ _ _ (by first | (simp; done) | (simp; omega) | omega)) | (with_reducible apply At.set') | (with_reducible apply At.far) | (with_reducible apply At.alloc) | (with_reducible apply At.drew) | (with_reducible apply At.drewN) | exact (rfl : Array.setIfInBounds _ _ _ = _) | (refine Ne.symm ?_; simp; done) | (show _ ≠ _; simp; done) | (show _ ≠ _; simp; omega) | (show _ ≠ _; omega))); (first | done | fail)) hb; have k2_w3c := At.cell k2_w3; have k2_w3f := At.frozen k2_w3; have k2_w3h := Lib.hid k2_w3; clear k2_w3; have k3_w3 : At w3 (ec) 47 #[I e] := At.keep (by (repeat' (first | (with_reducible assumption) | (with_reducible refine unhid ?_; with_reducible assumption) | (with_reducible refine At.fresh _ _ _ (by first | (simp; done) | (simp; omega) | omega)) | (with_reducible apply At.set') | (with_reducible apply At.far) | (with_reducible apply At.alloc) | (with_reducible apply At.drew) | (with_reducible apply At.drewN) | exact (rfl : Array.setIfInBounds _ _ _ = _) | (refine Ne.symm ?_; simp; done) | (show _ ≠ _; simp; done) | (show _ ≠ _; simp; omega) | (show _ ≠ _; omega))); (first | done | fail)) hb; have k3_w3c := At.cell k3_w3; have k3_w3f := At.frozen k3_w3; have k3_w3h := Lib.hid k3_w3; clear k3_w3; have hb_w3 : Below w2.heap.size w2 w3 := Below.trans (by exact (by repeat (first | exact Below.refl _ _ | assumption | (refine Below.setCell ?_ (by first | (simp; done) | (simp; omega) | omega) _) | (refine Below.alloc ?_ (by first | (simp; done) | (simp; omega) | omega) _) | (refine Below.drew ?_) | (refine Below.drewN' ?_ _)))) (hb.mono (by first | (simp; done) | (simp; omega) | omega)); obtain ⟨hc_w3, hf_w3⟩ := bcell hb_w3; clear hb)
              go_meet
              refine ⟨⟨k1_w3h.out, k2_w3h.out, by rw [HE0.out]; exact k3_w3h.out, HQ.out.2.2.2.1.keep hb_w3⟩, k0_w3h.out, ?_⟩
              exact HQ.out.2.2.2.2.2.trans (Only.of_below (S := fun b => b = ec) hb_w3) fun i _ hi => .inr (.inr hi)
      case rest =>
        obtain ⟨kC, kB, kO⟩ := hcut
        obtain ⟨w3, rfl⟩ : ∃ w3, w3 = wc := ⟨_, rfl⟩
        generalize hE0 : PNode.worse e (PNode.badOne t al x (ks.map VN.node)) (decide (8192 < (anew x).size)) = e0 at *
        have HE0 := Lib.hid hE0
        have kBc := kB.cell
        have kBl := kB.lt
        have HC3 := Lib.hid (And.intro kC kO)
        clear kC kB kO hE0
        go_upto_region 9 with fail
        go_loopw [10, 61] (fun _ s61 wr => ∃ j : Nat, j ≤ km ∧ s61 = .int .i64 (j : Int) ∧ Hid (Cnt cc hc ec lc (c + 1 + PNode.sizeL ((ks.take j).map VN.node)) (max h (d + PNode.highL 0 ((ks.take j).map VN.node))) (PNode.errL anew e0 ((ks.take j).map VN.node)) wr ∧ Only (fun b => b = cc ∨ b = hc ∨ b = ec) w wr)) (fun _ s61 _ => km - (intOf s61).toNat)
        case atStart =>
          refine ⟨0, Nat.zero_le _, rfl, ?_⟩
          have e1 : c + 1 + (PNode.sizeL ((ks.take 0).map VN.node) : Int) = c + 1 := by simp [PNode.sizeL]
          have e2 : max h (d + (PNode.highL 0 ((ks.take 0).map VN.node) : Int)) = max h d := by simp [PNode.highL]
          rw [e1, e2]
          exact HC3.out
        case round =>
          obtain ⟨j, hj, rfl, hst⟩ := hrel
          have kC := hst.out.1
          have kO := hst.out.2
          have hzr := kO.size
          have klc := kC.l_.cell
          have kll := kC.l_.lt
          have HST := Lib.hid (And.intro kC kO)
          by_cases hlt : j < km
          · have hjl : j < ks.length := by have := HP.out.2.1; omega
            have e1 : (ks.take (j + 1)).map VN.node = (ks.take j).map VN.node ++ [(ks[j]).node] := by rw [List.take_add_one, List.getElem?_eq_getElem hjl, List.map_append]; rfl
            have hsub : PNode.sizeL ((ks.take (j + 1)).map VN.node) ≤ sz := by
              rw [← HP.out.2.2.1]
              have h1 : ks.map VN.node = (ks.take (j + 1)).map VN.node ++ (ks.drop (j + 1)).map VN.node := by rw [← List.map_append, List.take_append_drop]
              rw [h1, PNode.sizeL_append]; omega
            have hsz1 : PNode.sizeL ((ks.take (j + 1)).map VN.node) = PNode.sizeL ((ks.take j).map VN.node) + (ks[j]).node.size := by rw [e1, PNode.sizeL_append]; simp [PNode.sizeL]
            have hhi1 : PNode.highL 0 ((ks.take (j + 1)).map VN.node) = max (PNode.highL 0 ((ks.take j).map VN.node)) ((ks[j]).node.high + 1) := by rw [e1, PNode.highL_append]
            have her1 : PNode.errL anew e0 ((ks.take (j + 1)).map VN.node) = PNode.err anew (PNode.errL anew e0 ((ks.take j).map VN.node)) (ks[j]).node := by rw [e1, PNode.errL_append]
            have hhb : (ks[j]).node.high < (ks[j]).node.size := PNode.high_size _
            have hhb0 : PNode.highL 0 ((ks.take j).map VN.node) ≤ PNode.sizeL ((ks.take j).map VN.node) := by
              have := PNode.high_size (.mk 0 [] ByteArray.empty ((ks.take j).map VN.node))
              unfold PNode.high PNode.size at this
              omega
            have hmem : ks[j] ∈ ks := List.getElem_mem hjl
            have hPk : PV wr R ks[j] := (HP.out.2.2.2.2.2.1 _ hmem).only kO fun b hb => by
              have := HR.out b hb
              exact ⟨this.1, by simp only [not_or]; exact ⟨this.2.1, this.2.2.1, this.2.2.2⟩⟩
            have hsm : (ks[j]).node.small := (PNode.smallL_iff _).1 HP.out.2.2.2.2.2.2.2 _ (List.mem_map.2 ⟨_, hmem, rfl⟩)
            have hkc : ∀ q, q < 4 → ∃ b off, KA = some ⟨b, off, none⟩ ∧ wr.cell? ⟨b, off + (j * 4 + q), none⟩ = (ks[j]).cells[q]? := by
              intro q hq
              obtain ⟨b, off, cap, hv, _, _, hRb, hcell⟩ := HP.out.2.2.2.2.1.open_ (by omega)
              injection hv with h1 _ _
              have hb := HR.out b hRb
              have h2 := kidsCells_get ks j hjl q hq
              obtain ⟨u, hu⟩ : ∃ u, (ks[j]).cells[q]? = some u := ⟨(ks[j]).cells[q]'(by rw [VN.cells_length]; exact hq), List.getElem?_eq_getElem _⟩
              rw [hu] at h2 ⊢
              refine ⟨b, off, h1, ?_⟩
              rw [World.cell?_of_block (a := ⟨b, off + (j * 4 + q), none⟩) (kO.block b hb.1 (by simp only [not_or]; exact ⟨hb.2.1, hb.2.2.1, hb.2.2.2⟩)), hcell _ _ h2]
            have HI : Hid (∀ W, Below wr.heap.size wr W → Calls Try.prog 171 #[(ks[j]).agg, I (d + 1), .pointer (some ⟨cc, 0, none⟩), .pointer (some ⟨hc, 0, none⟩), .pointer (some ⟨ec, 0, none⟩), .pointer (some ⟨lc, 0, none⟩)] W fun r w' => r = .returned (.tuple #[]) ∧
                Cnt cc hc ec lc (c + 1 + PNode.sizeL ((ks.take (j + 1)).map VN.node)) (max h (d + PNode.highL 0 ((ks.take (j + 1)).map VN.node))) (PNode.errL anew e0 ((ks.take (j + 1)).map VN.node)) w' ∧ Only (fun b => b = cc ∨ b = hc ∨ b = ec) w w') := by
              intro W hb
              have hzW := hb.size
              refine (IH.out _ hmem R W (c + 1 + PNode.sizeL ((ks.take j).map VN.node)) (max h (d + PNode.highL 0 ((ks.take j).map VN.node))) (PNode.errL anew e0 ((ks.take j).map VN.node)) (d + 1) (hPk.keepB hb fun b hb1 => by have := (HR.out b hb1).1; omega) (fun b hb1 => by
                have := HR.out b hb1; exact ⟨by omega, this.2⟩) hsm ⟨kC.c_.keep hb, kC.h_.keep hb, kC.e_.keep hb, kC.l_.keep hb⟩ (by omega) (by omega) (by omega) (by omega) (by omega) (by omega)).mono ?_
              rintro r w' ⟨hr, hC', hO'⟩
              refine ⟨hr, ?_, (kO.trans (Only.of_below (S := fun b => b = cc ∨ b = hc ∨ b = ec) hb) fun i _ hi => hi).trans hO' fun i _ hi => hi⟩
              rw [her1]
              have e2 : c + 1 + (PNode.sizeL ((ks.take j).map VN.node) : Int) + ((ks[j]).node.size : Int) = c + 1 + (PNode.sizeL ((ks.take (j + 1)).map VN.node) : Int) := by rw [hsz1]; omega
              have e3 : max (max h (d + (PNode.highL 0 ((ks.take j).map VN.node) : Int))) (d + 1 + ((ks[j]).node.high : Int)) = max h (d + (PNode.highL 0 ((ks.take (j + 1)).map VN.node) : Int)) := by rw [hhi1]; omega
              rw [e2, e3] at hC'
              exact hC'
            obtain ⟨b, off, hKA, hq0⟩ := hkc 0 (by omega)
            obtain ⟨b1, off1, hKA1, hq1⟩ := hkc 1 (by omega)
            obtain ⟨b2, off2, hKA2, hq2⟩ := hkc 2 (by omega)
            obtain ⟨b3, off3, hKA3, hq3⟩ := hkc 3 (by omega)
            rw [hKA] at hKA1 hKA2 hKA3
            cases hKA1; cases hKA2; cases hKA3
            clear e1 hsub hsz1 hhi1 her1 hhb hhb0 hmem hsm hkc hst kC kO
            revert hPk HI hq0 hq1 hq2 hq3
            generalize ks[j] = V
            intro hPk HI hq0 hq1 hq2 hq3
            obtain ⟨kt, kal, kx, kav, kkv, kks⟩ := V
            obtain ⟨a5, n5, c5, a6, n6, c6, rfl, rfl⟩ := VN.forms hPk
            simp only [VN.cells, VN.agg] at hq0 hq1 hq2 hq3 HI
            simp only [Nat.add_zero, ← Nat.add_assoc] at hq0 hq1 hq2 hq3
            simp at hq0 hq1 hq2 hq3
            subst hKA
            clear hPk hjl
            go_wp2_with ((with_reducible refine (HI.out _ (by repeat (first | exact Below.refl _ _ | assumption | (refine Below.setCell ?_ (by first | (simp; done) | (simp; omega) | omega) _) | (refine Below.alloc ?_ (by first | (simp; done) | (simp; omega) | omega) _) | (refine Below.drew ?_) | (refine Below.drewN' ?_ _)))).mono ?_); rintro r w5 ⟨rfl, hC5, hO5⟩; have H5 := Lib.hid (And.intro hC5 hO5); clear hC5 hO5)
            exact ⟨⟨j + 1, by omega, by go_num, H5.out⟩, by simp [intOf]; omega⟩
          · have hjm : j = km := by omega
            subst hjm
            go_wp2_with fail
            go_end0
            have e1 : ks.take j = ks := List.take_of_length_le (by have := HP.out.2.1; omega)
            have h1 := HST.out.1
            rw [e1] at h1
            refine ⟨rfl, ?_, HST.out.2⟩
            have e2 : c + ((PNode.mk t al x (ks.map VN.node)).size : Int) = c + 1 + (PNode.sizeL (ks.map VN.node) : Int) := by
              have : (PNode.mk t al x (ks.map VN.node)).size = PNode.sizeL (ks.map VN.node) + 1 := rfl
              rw [this]; omega
            have e3 : (PNode.mk t al x (ks.map VN.node)).high = PNode.highL 0 (ks.map VN.node) := rfl
            have e4 : (PNode.mk t al x (ks.map VN.node)).err anew e = PNode.errL anew e0 (ks.map VN.node) := by rw [← HE0.out]; rfl
            rw [e2, e3, e4]
            exact h1
end Go.Proofs.Ytnnjlpkjpbbklaa
