/-
  Package dom: Graft, walked. Conditions: the tree and the plain tree lie in memory.
-/
import Derived.Test.YtnnjlpkjpbbklaaMemD
import Derived.Deep.CutBlock
import Derived.Deep.RegionLaw
-- DomMeasure: measure of package dom. Conditions: the plain tree lies in memory; it is not very large.
set_option linter.unusedVariables false
set_option linter.unusedSimpArgs false
namespace Go.Proofs.Ytnnjlpkjpbbklaa
open Go.RowKit

namespace PNode
-- not very large
mutual
def small : PNode → Prop
  | .mk _ a x ks => a.length ≤ 200 ∧ x.size ≤ 20000 ∧ smallL ks
def smallL : List PNode → Prop
  | [] => True
  | k :: ks => small k ∧ smallL ks
end
theorem smallL_iff (ks : List PNode) : smallL ks ↔ ∀ k ∈ ks, small k := by
  induction ks with
  | nil => simp [smallL]
  | cons k ks ih => simp only [smallL, List.mem_cons, forall_eq_or_imp, ih]
theorem size_pos (n : PNode) : 0 < n.size := by cases n; unfold size; omega
theorem sizeL_length (ks : List PNode) : ks.length ≤ sizeL ks := by
  induction ks with
  | nil => exact Nat.le_refl _
  | cons k ks ih => rw [sizeL_cons, List.length_cons]; have := k.size_pos; omega
theorem sizeL_append (a b : List PNode) : sizeL (a ++ b) = sizeL a + sizeL b := by
  induction a with
  | nil => simp [sizeL]
  | cons k ks ih => rw [List.cons_append, sizeL_cons, sizeL_cons, ih]; omega
theorem highL_fold (ks : List PNode) (b : Nat) : highL b ks = ks.foldl (fun b k => max b (high k + 1)) b := by
  induction ks generalizing b with
  | nil => rfl
  | cons k ks ih => rw [highL_cons, List.foldl_cons, ih]
theorem highL_append (b : Nat) (l : List PNode) (k : PNode) : highL b (l ++ [k]) = max (highL b l) (high k + 1) := by
  rw [highL_fold, highL_fold, List.foldl_append]; rfl
theorem errL_append (f : Bytes → Bytes) (e : Int) (l : List PNode) (k : PNode) : errL f e (l ++ [k]) = err f (errL f e l) k := by
  induction l generalizing e with
  | nil => rfl
  | cons x l ih => exact ih _
theorem high_size : ∀ n : PNode, n.high < n.size := by
  intro n
  induction n using ind with
  | h t a x ks ih =>
    unfold high size
    rw [highL_fold]
    have key : ∀ (l : List PNode) (b c : Nat), (∀ k ∈ l, high k < size k) → b ≤ c → l.foldl (fun b k => max b (high k + 1)) b ≤ c + sizeL l := by
      intro l
      induction l with
      | nil => intro b c _ h; exact h
      | cons k l ih2 =>
        intro b c h hb
        rw [List.foldl_cons, sizeL_cons]
        have h1 := h k (by simp)
        have := ih2 (max b (high k + 1)) (c + size k) (fun k' hk' => h k' (by simp [hk'])) (by omega)
        omega
    have := key ks 0 0 ih (Nat.le_refl _)
    omega
end PNode

theorem VN.node_mk (t : Int) (al : List (Bytes × Bytes)) (x : Bytes) (av kv : Value) (ks : List VN) : (VN.mk t al x av kv ks).node = .mk t al x (ks.map VN.node) := by
  unfold VN.node; rw [VN.nodeL_map]

theorem nonempty_size (x : Bytes) : (!(ByteArray.toList x).isEmpty) = decide (x.size ≠ 0) := by
  rw [ByteArray.toList_eq]
  have h : x.size = x.data.toList.length := by rw [← ByteArray.size_data]; simp
  rw [h]
  cases x.data.toList <;> simp

/-- The three numbers that measure counts in. -/
structure Cnt (cc hc ec lc : Nat) (c h e : Int) (w : World) : Prop where
  c_ : At w cc 3 #[I c]
  h_ : At w hc 3 #[I h]
  e_ : At w ec 47 #[I e]
  l_ : At w lc 181 #[.func (.func 171) #[] #[.pointer (some ⟨cc, 0, none⟩), .pointer (some ⟨hc, 0, none⟩), .pointer (some ⟨ec, 0, none⟩), .pointer (some ⟨lc, 0, none⟩)]]

set_option maxHeartbeats 2000000 in
theorem measure1_at {cc hc ec lc : Nat} (d1 : cc ≠ hc ∧ cc ≠ ec ∧ cc ≠ lc ∧ hc ≠ ec ∧ hc ≠ lc ∧ ec ≠ lc) : ∀ (V : VN) (R : Nat → Prop) (w : World) (c h e d : Int), PV w R V → (∀ b, R b → b < w.heap.size ∧ b ≠ cc ∧ b ≠ hc ∧ b ≠ ec) → V.node.small → Cnt cc hc ec lc c h e w → 0 ≤ c → c + V.node.size ≤ 1000000 → 0 ≤ h → h ≤ 1000000 → 0 ≤ d → d + V.node.size ≤ 1000000 →
    Calls Try.prog 171 #[V.agg, I d, .pointer (some ⟨cc, 0, none⟩), .pointer (some ⟨hc, 0, none⟩), .pointer (some ⟨ec, 0, none⟩), .pointer (some ⟨lc, 0, none⟩)] w fun r w' => r = .returned (.tuple #[]) ∧ Cnt cc hc ec lc (c + V.node.size) (max h (d + V.node.high)) (V.node.err anew e) w' ∧ Only (fun b => b = cc ∨ b = hc ∨ b = ec) w w' := by
  intro V
  induction V using VN.ind with
  | h t al x av kv ks ih =>
    intro R w c h e d hP hR hs hC hc0 hc1 hh0 hh1 hd0 hd1
    obtain ⟨d12, d13, d14, d23, d24, d34⟩ := d1
    cases hP with
    | mk ha hk hkids =>
      rw [VN.node_mk] at hs hc1 hd1 ⊢
      dsimp only [VN.agg]
      unfold PNode.small at hs
      obtain ⟨hs1, hs2, hs3⟩ := hs
      have hsz : (PNode.mk t al x (ks.map VN.node)).size = PNode.sizeL (ks.map VN.node) + 1 := rfl
      have hkl : ks.length ≤ PNode.sizeL (ks.map VN.node) := by have := PNode.sizeL_length (ks.map VN.node); simpa using this
      rw [hsz] at hc1 hd1
      obtain ⟨AA, ac, hav, hac1, hac2, hA0⟩ := ha.form
      obtain ⟨KA, kc, hkv, hkc1, hkc2, hK0⟩ := hk.form
      have hcc := hC.c_.cell
      have hcf := hC.c_.frozen
      have hcl := hC.c_.lt
      have hhc := hC.h_.cell
      have hhf := hC.h_.frozen
      have hhl := hC.h_.lt
      have hec := hC.e_.cell
      have hef := hC.e_.frozen
      have hel := hC.e_.lt
      have hlc := hC.l_.cell
      have hll := hC.l_.lt
      have HEl := Lib.hid (fun (W : World) => element_any (w := W) t)
      have HAn := Lib.hid (fun (W : World) => anew_any (w := W) x (by omega))
      subst hav hkv
      generalize hAM : al.length = am at *
      generalize hKM : ks.length = km at *
      generalize hSZ : PNode.sizeL (ks.map VN.node) = sz at *
      have HP := Lib.hid (And.intro hAM (And.intro hKM (And.intro hSZ (And.intro ha (And.intro hk (And.intro hkids (And.intro hC hs3)))))))
      have hkml : (km : Int) ≤ 1000000 := by omega
      have haml : (am : Int) ≤ 200 := by omega
      have IH := Lib.hid ih
      have HR := Lib.hid hR
      clear hAM hKM hSZ ha hk hkids hC hs3 ih hA0 hK0 hsz hR
      go_enter Try.func171, Try.ntmps171
      go_upto_block 0 with fail
      have k1 : At (((w.setCell ⟨cc, 0, none⟩ (I (c + 1))).setCell ⟨hc, 0, none⟩ (I (max h d))).alloc (.cells #[I t, .slice AA am ac, .string x, .slice KA km kc] 41)) cc 3 #[I (c + 1)] := (((HP.out.2.2.2.2.2.2.1.c_.set' rfl).far (p := ⟨hc, 0, none⟩) d12 _).alloc _)
      have k2 : At (((w.setCell ⟨cc, 0, none⟩ (I (c + 1))).setCell ⟨hc, 0, none⟩ (I (max h d))).alloc (.cells #[I t, .slice AA am ac, .string x, .slice KA km kc] 41)) hc 3 #[I (max h d)] := (((HP.out.2.2.2.2.2.2.1.h_.far (p := ⟨cc, 0, none⟩) (fun e => d12 e.symm) _).set' rfl).alloc _)
      have k3 : At (((w.setCell ⟨cc, 0, none⟩ (I (c + 1))).setCell ⟨hc, 0, none⟩ (I (max h d))).alloc (.cells #[I t, .slice AA am ac, .string x, .slice KA km kc] 41)) ec 47 #[I e] := (((HP.out.2.2.2.2.2.2.1.e_.far (p := ⟨cc, 0, none⟩) (fun e => d13 e.symm) _).far (p := ⟨hc, 0, none⟩) (fun e => d23 e.symm) _).alloc _)
      have k4 := (((HP.out.2.2.2.2.2.2.1.l_.far (p := ⟨cc, 0, none⟩) (fun e => d14 e.symm) (I (c + 1))).far (p := ⟨hc, 0, none⟩) (fun e => d24 e.symm) (I (max h d))).alloc (.cells #[I t, .slice AA am ac, .string x, .slice KA km kc] 41))
      have k5 : At (((w.setCell ⟨cc, 0, none⟩ (I (c + 1))).setCell ⟨hc, 0, none⟩ (I (max h d))).alloc (.cells #[I t, .slice AA am ac, .string x, .slice KA km kc] 41)) w.heap.size 41 #[I t, .slice AA am ac, .string x, .slice KA km kc] := At.fresh _ _ _ (by simp)
      have k6 : Only (fun b => b = cc ∨ b = hc ∨ b = ec) w (((w.setCell ⟨cc, 0, none⟩ (I (c + 1))).setCell ⟨hc, 0, none⟩ (I (max h d))).alloc (.cells #[I t, .slice AA am ac, .string x, .slice KA km kc] 41)) := by
        refine ⟨rfl, rfl, rfl, by simp, fun b hb hn => ?_⟩
        simp only [not_or] at hn
        rw [Below.heap_alloc _ _ _ (by simpa using hb), Below.heap_setCell _ _ _ _ hn.2.1, Below.heap_setCell _ _ _ _ hn.1]
      generalize (((w.setCell ⟨cc, 0, none⟩ (I (c + 1))).setCell ⟨hc, 0, none⟩ (I (max h d))).alloc (.cells #[I t, .slice AA am ac, .string x, .slice KA km kc] 41)) = W1 at k1 k2 k3 k4 k5 k6 ⊢
      have k5c := k5.cell
      have k5l := k5.lt
      have HK := Lib.hid (And.intro k1 (And.intro k2 (And.intro k3 (And.intro k4 (And.intro k5 k6)))))
      have hz1 := k6.size
      clear k1 k2 k3 k4 k5 k6
      go_cut [8, 18, 19, 48] (fun _ _ _ _ wc => Cnt cc hc ec lc (c + 1) (max h d) (PNode.worse e (PNode.badOne t al x (ks.map VN.node)) (decide (8192 < (anew x).size))) wc ∧ At wc w.heap.size 41 #[I t, .slice AA am ac, .string x, .slice KA km kc] ∧ Only (fun b => b = cc ∨ b = hc ∨ b = ec) w wc)
      case first =>
        go_upto_region 4 with fail
        go_cut [8, 18, 19] (fun _ _ s19 wc => s19 = .bool (PNode.badOne t al x (ks.map VN.node)) ∧ Below W1.heap.size W1 wc)
        case first =>
          have eA : al.isEmpty = decide (am = 0) := by rw [← HP.out.1]; cases al <;> simp
          have eK : (ks.map VN.node).isEmpty = decide (km = 0) := by rw [← HP.out.2.1]; cases ks <;> simp
          by_cases ht : t = 0
          · have c1 : (t == 0) = true := by simp [ht]
            by_cases ha : 0 < am
            · have eB : PNode.badOne t al x (ks.map VN.node) = true := by
                unfold PNode.badOne; rw [if_pos ht, eA, eK]; simp; omega
              have c2 : decide (0 < (am : Int)) = true := by simp; omega
              have c2' : decide (0 < am) = true := by simp; omega
              have HB := Lib.hid eB
              clear ht eA eK eB ha
              go_wp2_with fail
              go_meet
              exact ⟨by rw [HB.out], Below.refl _ _⟩
            · by_cases hk : 0 < km
              · have eB : PNode.badOne t al x (ks.map VN.node) = true := by
                  unfold PNode.badOne; rw [if_pos ht, eA, eK]; simp; omega
                have c2 : decide (0 < (am : Int)) = false := by simp; omega
                have c2' : decide (0 < am) = false := by simp; omega
                have c3 : decide (0 < (km : Int)) = true := by simp; omega
                have c3' : decide (0 < km) = true := by simp; omega
                have HB := Lib.hid eB
                clear ht eA eK eB ha hk
                go_wp2_with fail
                go_meet
                exact ⟨by rw [HB.out], Below.refl _ _⟩
              · have eB : PNode.badOne t al x (ks.map VN.node) = false := by
                  unfold PNode.badOne; rw [if_pos ht, eA, eK]; simp; omega
                have c2 : decide (0 < (am : Int)) = false := by simp; omega
                have c2' : decide (0 < am) = false := by simp; omega
                have c3 : decide (0 < (km : Int)) = false := by simp; omega
                have c3' : decide (0 < km) = false := by simp; omega
                have HB := Lib.hid eB
                clear ht eA eK eB ha hk
                go_wp2_with fail
                go_meet
                exact ⟨by rw [HB.out], Below.refl _ _⟩
          · have c1 : (t == 0) = false := by simp [ht]
            cases he : elementOk t with
            | false =>
              have eB : PNode.badOne t al x (ks.map VN.node) = true := by
                unfold PNode.badOne; rw [if_neg ht, he]; simp
              rw [he] at HEl
              have HB := Lib.hid eB
              clear ht eA eK eB he
              go_wp2_with ((with_reducible refine (HEl.out _).mono ?_); rintro e w2 ⟨rfl, hb⟩; have hz_w2 := hb.size; (try simp only [World.size_alloc, World.size_setCell, World.size_drew, size_drewN'] at hz_w2); have hb_w2 : Below W1.heap.size W1 w2 := Below.trans (by exact (by repeat (first | exact Below.refl _ _ | assumption | (refine Below.setCell ?_ (by first | (simp; done) | (simp; omega) | omega) _) | (refine Below.alloc ?_ (by first | (simp; done) | (simp; omega) | omega) _) | (refine Below.drew ?_) | (refine Below.drewN' ?_ _)))) (hb.mono (by first | (simp; done) | (simp; omega) | omega)); obtain ⟨hc_w2, hf_w2⟩ := bcell hb_w2; clear hb)
              go_meet
              exact ⟨by rw [HB.out], (by repeat (first | exact Below.refl _ _ | assumption | (refine Below.setCell ?_ (by first | (simp; done) | (simp; omega) | omega) _) | (refine Below.alloc ?_ (by first | (simp; done) | (simp; omega) | omega) _) | (refine Below.drew ?_) | (refine Below.drewN' ?_ _)))⟩
            | true =>
              have eB : PNode.badOne t al x (ks.map VN.node) = decide (x.size ≠ 0) := by
                unfold PNode.badOne; rw [if_neg ht, he]; simp
              rw [he] at HEl
              have HB := Lib.hid eB
              clear ht eA eK eB he
              go_wp2_with ((with_reducible refine (HEl.out _).mono ?_); rintro e w2 ⟨rfl, hb⟩; have hz_w2 := hb.size; (try simp only [World.size_alloc, World.size_setCell, World.size_drew, size_drewN'] at hz_w2); have hb_w2 : Below W1.heap.size W1 w2 := Below.trans (by exact (by repeat (first | exact Below.refl _ _ | assumption | (refine Below.setCell ?_ (by first | (simp; done) | (simp; omega) | omega) _) | (refine Below.alloc ?_ (by first | (simp; done) | (simp; omega) | omega) _) | (refine Below.drew ?_) | (refine Below.drewN' ?_ _)))) (hb.mono (by first | (simp; done) | (simp; omega) | omega)); obtain ⟨hc_w2, hf_w2⟩ := bcell hb_w2; clear hb)
              go_meet
              exact ⟨by rw [HB.out, nonempty_size], (by repeat (first | exact Below.refl _ _ | assumption | (refine Below.setCell ?_ (by first | (simp; done) | (simp; omega) | omega) _) | (refine Below.alloc ?_ (by first | (simp; done) | (simp; omega) | omega) _) | (refine Below.drew ?_) | (refine Below.drewN' ?_ _)))⟩
        case rest =>
          obtain ⟨rfl, hb2⟩ := hcut
          obtain ⟨w2, rfl⟩ : ∃ w2, w2 = wc := ⟨_, rfl⟩
          have HB2 := Lib.hid hb2
          generalize hbad : PNode.badOne t al x (ks.map VN.node) = bad
          have HBad := Lib.hid hbad
          have q1 := HK.out.1.keep hb2
          have q2 := HK.out.2.1.keep hb2
          have q3 := HK.out.2.2.1.keep hb2
          have q4 := HK.out.2.2.2.1.keep hb2
          have q5 := HK.out.2.2.2.2.1.keep hb2
          have q6 : Only (fun b => b = cc ∨ b = hc ∨ b = ec) w w2 := HK.out.2.2.2.2.2.trans (Only.of_below (S := fun b => b = cc ∨ b = hc ∨ b = ec) hb2) fun i _ hi => hi
          have q3c := q3.cell
          have q3f := q3.frozen
          have q3l := q3.lt
          have q5c := q5.cell
          have q5l := q5.lt
          have hq1 := Lib.hid q1
          have hq2 := Lib.hid q2
          have hq3 := Lib.hid q3
          have hq5 := Lib.hid q5
          have HQ := Lib.hid (And.intro q1 (And.intro q2 (And.intro q3 (And.intro q4 (And.intro q5 q6)))))
          have hz2 := q6.size
          have hecb : ec ≠ w.heap.size := by omega
          clear hbad hb2 q1 q2 q3 q4 q5 q6
          cases bad with
          | true =>
            go_wp2_with fail
            go_meet
            refine ⟨⟨HQ.out.1.far (p := ⟨ec, 0, none⟩) d13 _, HQ.out.2.1.far (p := ⟨ec, 0, none⟩) d23 _, HQ.out.2.2.1.set' (by rw [HBad.out]; rfl), HQ.out.2.2.2.1.far (p := ⟨ec, 0, none⟩) (fun e => d34 e.symm) _⟩, HQ.out.2.2.2.2.1.far (p := ⟨ec, 0, none⟩) (fun e => hecb e.symm) _, ?_⟩
            refine HQ.out.2.2.2.2.2.trans (S' := fun b => b = ec) ⟨rfl, rfl, rfl, by simp, fun b _ hn => Below.heap_setCell _ _ _ _ hn⟩ fun i _ hi => .inr (.inr hi)
          | false =>
            have hsz : (anew x).size ≤ 4000000 := by
              have h1 := runesBytes_size_le (runesOf x)
              have h2 := runesOf_le x
              unfold anew
              omega
            by_cases hlong : 8192 < (anew x).size
            · have c1 : decide (8192 < ((anew x).size : Int)) = true := by simp; omega
              have c1' : decide (8192 < (anew x).size) = true := by simp; omega
              by_cases he0 : e = 0
              · have c2 : (e == 0) = true := by simp [he0]
                have HE0 : Hid (PNode.worse e (PNode.badOne t al x (ks.map VN.node)) (decide (8192 < (anew x).size)) = 10) := by rw [HBad.out, he0, c1']; rfl
                clear he0 hlong
                generalize anew x = ax at *
                go_wp2_with ((with_reducible refine (HAn.out _).mono ?_); rintro e w3 ⟨rfl, hb⟩; have hz_w3 := hb.size; (try simp only [World.size_alloc, World.size_setCell, World.size_drew, size_drewN'] at hz_w3); have k0_w3 : At w3 (w.heap.size) 41 #[I t, .slice AA am ac, .string x, .slice KA km kc] := At.keep (by (repeat' (first | (with_reducible assumption) | (with_reducible refine unhid ?_; with_reducible assumption) | (with_reducible refine At.fresh _ _ _ (by first | (simp; done) | (simp; omega) | omega)) | (with_reducible apply At.set') | (with_reducible apply At.far) | (with_reducible apply At.alloc) | (with_reducible apply At.drew) | (with_reducible apply At.drewN) | exact (rfl : Array.setIfInBounds _ _ _ = _) | (refine Ne.symm ?_; simp; done) | (show _ ≠ _; simp; done) | (show _ ≠ _; simp; omega) | (show _ ≠ _; omega))); (first | done | fail)) hb; have k0_w3c := At.cell k0_w3; have k0_w3f := At.frozen k0_w3; have k0_w3h := Lib.hid k0_w3; clear k0_w3; have k1_w3 : At w3 (cc) 3 #[I (c + 1)] := At.keep (by (repeat' (first | (with_reducible assumption) | (with_reducible refine unhid ?_; with_reducible assumption) | (with_reducible refine At.fresh _ _ _ (by first | (simp; done) | (simp; omega) | omega)) | (with_reducible apply At.set') | (with_reducible apply At.far) | (with_reducible apply At.alloc) | (with_reducible apply At.drew) | (with_reducible apply At.drewN) | exact (rfl : Array.setIfInBounds _ _ _ = _) | (refine Ne.symm ?_; simp; done) | (show _ ≠ _; simp; done) | (show _ ≠ _; simp; omega) | (show _ ≠ _; omega))); (first | done | fail)) hb; have k1_w3c := At.cell k1_w3; have k1_w3f := At.frozen k1_w3; have k1_w3h := Lib.hid k1_w3; clear k1_w3; have k2_w3 : At w3 (hc) 3 #[I (max h d)] := At.keep (by (repeat' (first | (with_reducible assumption) | (with_reducible refine unhid ?_; with_reducible assumption) | (with_reducible refine At.fresh _ _ _ (by first | (simp; done) | (simp; omega) | omega)) | (with_reducible apply At.set') | (with_reducible apply At.far) | (with_reducible apply At.alloc) | (with_reducible apply At.drew) | (with_reducible apply At.drewN) | exact (rfl : Array.setIfInBounds _ _ _ = _) | (refine Ne.symm ?_; simp; done) | (show _ ≠ _; simp; done) | (show _ ≠ _; simp; omega) | (show _ ≠ _; omega))); (first | done | fail)) hb; have k2_w3c := At.cell k2_w3; have k2_w3f := At.frozen k2_w3; have k2_w3h := Lib.hid k2_w3; clear k2_w3; have k3_w3 : At w3 (ec) 47 #[I e] := At.keep (by (repeat' (first | (with_reducible assumption) | (with_reducible refine unhid ?_; with_reducible assumption) | (with_reducible refine At.fresh _ _ _ (by first | (simp; done) | (simp; omega) | omega)) | (with_reducible apply At.set') | (with_reducible apply At.far) | (with_reducible apply At.alloc) | (with_reducible apply At.drew) | (with_reducible apply At.drewN) | exact (rfl : Array.setIfInBounds _ _ _ = _) | (refine Ne.symm ?_; simp; done) | (show _ ≠ _; simp; done) | (show _ ≠ _; simp; omega) | (show _ ≠ _; omega))); (first | done | fail)) hb; have k3_w3c := At.cell k3_w3; have k3_w3f := At.frozen k3_w3; have k3_w3h := Lib.hid k3_w3; clear k3_w3; have hb_w3 : Below w2.heap.size w2 w3 := Below.trans (by exact (by repeat (first | exact Below.refl _ _ | assumption | (refine Below.setCell ?_ (by first | (simp; done) | (simp; omega) | omega) _) | (refine Below.alloc ?_ (by first | (simp; done) | (simp; omega) | omega) _) | (refine Below.drew ?_) | (refine Below.drewN' ?_ _)))) (hb.mono (by first | (simp; done) | (simp; omega) | omega)); obtain ⟨hc_w3, hf_w3⟩ := bcell hb_w3; clear hb)
                go_meet
                refine ⟨⟨k1_w3h.out.far (p := ⟨ec, 0, none⟩) d13 _, k2_w3h.out.far (p := ⟨ec, 0, none⟩) d23 _, k3_w3h.out.set' (by rw [HE0.out]; rfl), (HQ.out.2.2.2.1.keep hb_w3).far (p := ⟨ec, 0, none⟩) (fun e => d34 e.symm) _⟩, k0_w3h.out.far (p := ⟨ec, 0, none⟩) (fun e => hecb e.symm) _, ?_⟩
                refine (HQ.out.2.2.2.2.2.trans (Only.of_below (S := fun b => b = ec) hb_w3) fun i _ hi => .inr (.inr hi)).trans (S' := fun b => b = ec) ⟨rfl, rfl, rfl, by simp, fun b _ hn => Below.heap_setCell _ _ _ _ hn⟩ fun i _ hi => .inr (.inr hi)
              · have c2 : (e == 0) = false := by simp [he0]
                have HE0 : Hid (PNode.worse e (PNode.badOne t al x (ks.map VN.node)) (decide (8192 < (anew x).size)) = e) := by rw [HBad.out, c1', PNode.worse, c2]; rfl
                clear he0 hlong
                generalize anew x = ax at *
                go_wp2_with ((with_reducible refine (HAn.out _).mono ?_); rintro e w3 ⟨rfl, hb⟩; have hz_w3 := hb.size; (try simp only [World.size_alloc, World.size_setCell, World.size_drew, size_drewN'] at hz_w3); have k0_w3 : At w3 (w.heap.size) 41 #[I t, .slice AA am ac, .string x, .slice KA km kc] := At.keep (by (repeat' (first | (with_reducible assumption) | (with_reducible refine unhid ?_; with_reducible assumption) | (with_reducible refine At.fresh _ _ _ (by first | (simp; done) | (simp; omega) | omega)) | (with_reducible apply At.set') | (with_reducible apply At.far) | (with_reducible apply At.alloc) | (with_reducible apply At.drew) | (with_reducible apply At.drewN) | exact (rfl : Array.setIfInBounds _ _ _ = _) | (refine Ne.symm ?_; simp; done) | (show _ ≠ _; simp; done) | (show _ ≠ _; simp; omega) | (show _ ≠ _; omega))); (first | done | fail)) hb; have k0_w3c := At.cell k0_w3; have k0_w3f := At.frozen k0_w3; have k0_w3h := Lib.hid k0_w3; clear k0_w3; have k1_w3 : At w3 (cc) 3 #[I (c + 1)] := At.keep (by (repeat' (first | (with_reducible assumption) | (with_reducible refine unhid ?_; with_reducible assumption) | (with_reducible refine At.fresh _ _ _ (by first | (simp; done) | (simp; omega) | omega)) | (with_reducible apply At.set') | (with_reducible apply At.far) | (with_reducible apply At.alloc) | (with_reducible apply At.drew) | (with_reducible apply At.drewN) | exact (rfl : Array.setIfInBounds _ _ _ = _) | (refine Ne.symm ?_; simp; done) | (show _ ≠ _; simp; done) | (show _ ≠ _; simp; omega) | (show _ ≠ _; omega))); (first | done | fail)) hb; have k1_w3c := At.cell k1_w3; have k1_w3f := At.frozen k1_w3; have k1_w3h := Lib.hid k1_w3; clear k1_w3; have k2_w3 : At w3 (hc) 3 #[I (max h d)] := At.keep (by (repeat' (first | (with_reducible assumption) | (with_reducible refine unhid ?_; with_reducible assumption) | (with_reducible refine At.fresh _ _ _ (by first | (simp; done) | (simp; omega) | omega)) | (with_reducible apply At.set') | (with_reducible apply At.far) | (with_reducible apply At.alloc) | (with_reducible apply At.drew) | (with_reducible apply At.drewN) | exact (rfl : Array.setIfInBounds _ _ _ = _) | (refine Ne.symm ?_; simp; done) | (show _ ≠ _; simp; done) | (show _ ≠ _; simp; omega) | (show _ ≠ _; omega))); (first | done | fail)) hb; have k2_w3c := At.cell k2_w3; have k2_w3f := At.frozen k2_w3; have k2_w3h := Lib.hid k2_w3; clear k2_w3; have k3_w3 : At w3 (ec) 47 #[I e] := At.keep (by (repeat' (first | (with_reducible assumption) | (with_reducible refine unhid ?_; with_reducible assumption) | (with_reducible refine At.fresh _ _ _ (by first | (simp; done) | (simp; omega) | omega)) | (with_reducible apply At.set') | (with_reducible apply At.far) | (with_reducible apply At.alloc) | (with_reducible apply At.drew) | (with_reducible apply At.drewN) | exact (rfl : Array.setIfInBounds _ _ _ = _) | (refine Ne.symm ?_; simp; done) | (show _ ≠ _; simp; done) | (show _ ≠ _; simp; omega) | (show _ ≠ _; omega))); (first | done | fail)) hb; have k3_w3c := At.cell k3_w3; have k3_w3f := At.frozen k3_w3; have k3_w3h := Lib.hid k3_w3; clear k3_w3; have hb_w3 : Below w2.heap.size w2 w3 := Below.trans (by exact (by repeat (first | exact Below.refl _ _ | assumption | (refine Below.setCell ?_ (by first | (simp; done) | (simp; omega) | omega) _) | (refine Below.alloc ?_ (by first | (simp; done) | (simp; omega) | omega) _) | (refine Below.drew ?_) | (refine Below.drewN' ?_ _)))) (hb.mono (by first | (simp; done) | (simp; omega) | omega)); obtain ⟨hc_w3, hf_w3⟩ := bcell hb_w3; clear hb)
                go_meet
                refine ⟨⟨k1_w3h.out, k2_w3h.out, by rw [HE0.out]; exact k3_w3h.out, HQ.out.2.2.2.1.keep hb_w3⟩, k0_w3h.out, ?_⟩
                exact HQ.out.2.2.2.2.2.trans (Only.of_below (S := fun b => b = ec) hb_w3) fun i _ hi => .inr (.inr hi)
            · have c1 : decide (8192 < ((anew x).size : Int)) = false := by simp; omega
              have c1' : decide (8192 < (anew x).size) = false := by simp; omega
              have HE0 : Hid (PNode.worse e (PNode.badOne t al x (ks.map VN.node)) (decide (8192 < (anew x).size)) = e) := by rw [HBad.out, c1']; rfl
              clear hlong
              generalize anew x = ax at *
              go_wp2_with ((with_reducible refine (HAn.out _).mono ?_); rintro e w3 ⟨rfl, hb⟩; have hz_w3 := hb.size; (try simp only [World.size_alloc, World.size_setCell, World.size_drew, size_drewN'] at hz_w3); have k0_w3 : At w3 (w.heap.size) 41 #[I t, .slice AA am ac, .string x, .slice KA km kc] := At.keep (by (repeat' (first | (with_reducible assumption) | (with_reducible refine unhid ?_; with_reducible assumption) | (with_reducible refine At.fresh _ _ _ (by first | (simp; done) | (simp; omega) | omega)) | (with_reducible apply At.set') | (with_reducible apply At.far) | (with_reducible apply At.alloc) | (with_reducible apply At.drew) | (with_reducible apply At.drewN) | exact (rfl : Array.setIfInBounds _ _ _ = _) | (refine Ne.symm ?_; simp; done) | (show _ ≠ _; simp; done) | (show _ ≠ _; simp; omega) | (show _ ≠ _; omega))); (first | done | fail)) hb; have k0_w3c := At.cell k0_w3; have k0_w3f := At.frozen k0_w3; have k0_w3h := Lib.hid k0_w3; clear k0_w3; have k1_w3 : At w3 (cc) 3 #[I (c + 1)] := At.keep (by (repeat' (first | (with_reducible assumption) | (with_reducible refine unhid ?_; with_reducible assumption) | (with_reducible refine At.fresh _ _ _ (by first | (simp; done) | (simp; omega) | omega)) | (with_reducible apply At.set') | (with_reducible apply At.far) | (with_reducible apply At.alloc) | (with_reducible apply At.drew) | (with_reducible apply At.drewN) | exact (rfl : Array.setIfInBounds _ _ _ = _) | (refine Ne.symm ?_; simp; done) | (show _ ≠ _; simp; done) | (show _ ≠ _; simp; omega) | (show _ ≠ _; omega))); (first | done | fail)) hb; have k1_w3c := At.cell k1_w3; have k1_w3f := At.frozen k1_w3; have k1_w3h := Lib.hid k1_w3; clear k1_w3; have k2_w3 : At w3 (hc) 3 #[I (max h d)] := At.keep (by (repeat' (first | (with_reducible assumption) | (with_reducible refine unhid ?_; with_reducible assumption) | (with_reducible refine At.fresh _ _ _ (by first | (simp; done) | (simp; omega) | omega)) | (with_reducible apply At.set') | (with_reducible apply At.far) | (with_reducible apply At.alloc) | (with_reducible apply At.drew) | (with_reducible apply At.drewN) | exact (rfl : Array.setIfInBounds _ _ _ = _) | (refine Ne.symm ?_; simp; done) | (show _ ≠ _; simp; done) | (show _ ≠ _; simp; omega) | (show _ ≠ _; omega))); (first | done | fail)) hb; have k2_w3c := At.cell k2_w3; have k2_w3f := At.frozen k2_w3; have k2_w3h := Lib.hid k2_w3; clear k2_w3; have k3_w3 : At w3 (ec) 47 #[I e] := At.keep (by (repeat' (first | (with_reducible assumption) | (with_reducible refine unhid ?_; with_reducible assumption) | (with_reducible refine At.fresh _ _ _ (by first | (simp; done) | (simp; omega) | omega)) | (with_reducible apply At.set') | (with_reducible apply At.far) | (with_reducible apply At.alloc) | (with_reducible apply At.drew) | (with_reducible apply At.drewN) | exact (rfl : Array.setIfInBounds _ _ _ = _) | (refine Ne.symm ?_; simp; done) | (show _ ≠ _; simp; done) | (show _ ≠ _; simp; omega) | (show _ ≠ _; omega))); (first | done | fail)) hb; have k3_w3c := At.cell k3_w3; have k3_w3f := At.frozen k3_w3; have k3_w3h := Lib.hid k3_w3; clear k3_w3; have hb_w3 : Below w2.heap.size w2 w3 := Below.trans (by exact (by repeat (first | exact Below.refl _ _ | assumption | (refine Below.setCell ?_ (by first | (simp; done) | (simp; omega) | omega) _) | (refine Below.alloc ?_ (by first | (simp; done) | (simp; omega) | omega) _) | (refine Below.drew ?_) | (refine Below.drewN' ?_ _)))) (hb.mono (by first | (simp; done) | (simp; omega) | omega)); obtain ⟨hc_w3, hf_w3⟩ := bcell hb_w3; clear hb)
              go_meet
              refine ⟨⟨k1_w3h.out, k2_w3h.out, by rw [HE0.out]; exact k3_w3h.out, HQ.out.2.2.2.1.keep hb_w3⟩, k0_w3h.out, ?_⟩
              exact HQ.out.2.2.2.2.2.trans (Only.of_below (S := fun b => b = ec) hb_w3) fun i _ hi => .inr (.inr hi)
      case rest =>
        obtain ⟨kC, kB, kO⟩ := hcut
        obtain ⟨w3, rfl⟩ : ∃ w3, w3 = wc := ⟨_, rfl⟩
        generalize hE0 : PNode.worse e (PNode.badOne t al x (ks.map VN.node)) (decide (8192 < (anew x).size)) = e0 at *
        have HE0 := Lib.hid hE0
        have kBc := kB.cell
        have kBl := kB.lt
        have HC3 := Lib.hid (And.intro kC kO)
        clear kC kB kO hE0
        go_upto_region 9 with fail
        go_loopw [10, 61] (fun _ s61 wr => ∃ j : Nat, j ≤ km ∧ s61 = .int .i64 (j : Int) ∧ Hid (Cnt cc hc ec lc (c + 1 + PNode.sizeL ((ks.take j).map VN.node)) (max h (d + PNode.highL 0 ((ks.take j).map VN.node))) (PNode.errL anew e0 ((ks.take j).map VN.node)) wr ∧ Only (fun b => b = cc ∨ b = hc ∨ b = ec) w wr)) (fun _ s61 _ => km - (intOf s61).toNat)
        case atStart =>
          refine ⟨0, Nat.zero_le _, rfl, ?_⟩
          have e1 : c + 1 + (PNode.sizeL ((ks.take 0).map VN.node) : Int) = c + 1 := by simp [PNode.sizeL]
          have e2 : max h (d + (PNode.highL 0 ((ks.take 0).map VN.node) : Int)) = max h d := by simp [PNode.highL]
          rw [e1, e2]
          exact HC3.out
        case round =>
          obtain ⟨j, hj, rfl, hst⟩ := hrel
          have kC := hst.out.1
          have kO := hst.out.2
          have hzr := kO.size
          have klc := kC.l_.cell
          have kll := kC.l_.lt
          have HST := Lib.hid (And.intro kC kO)
          by_cases hlt : j < km
          · have hjl : j < ks.length := by have := HP.out.2.1; omega
            have e1 : (ks.take (j + 1)).map VN.node = (ks.take j).map VN.node ++ [(ks[j]).node] := by rw [List.take_add_one, List.getElem?_eq_getElem hjl, List.map_append]; rfl
            have hsub : PNode.sizeL ((ks.take (j + 1)).map VN.node) ≤ sz := by
              rw [← HP.out.2.2.1]
              have h1 : ks.map VN.node = (ks.take (j + 1)).map VN.node ++ (ks.drop (j + 1)).map VN.node := by rw [← List.map_append, List.take_append_drop]
              rw [h1, PNode.sizeL_append]; omega
            have hsz1 : PNode.sizeL ((ks.take (j + 1)).map VN.node) = PNode.sizeL ((ks.take j).map VN.node) + (ks[j]).node.size := by rw [e1, PNode.sizeL_append]; simp [PNode.sizeL]
            have hhi1 : PNode.highL 0 ((ks.take (j + 1)).map VN.node) = max (PNode.highL 0 ((ks.take j).map VN.node)) ((ks[j]).node.high + 1) := by rw [e1, PNode.highL_append]
            have her1 : PNode.errL anew e0 ((ks.take (j + 1)).map VN.node) = PNode.err anew (PNode.errL anew e0 ((ks.take j).map VN.node)) (ks[j]).node := by rw [e1, PNode.errL_append]
            have hhb : (ks[j]).node.high < (ks[j]).node.size := PNode.high_size _
            have hhb0 : PNode.highL 0 ((ks.take j).map VN.node) ≤ PNode.sizeL ((ks.take j).map VN.node) := by
              have := PNode.high_size (.mk 0 [] ByteArray.empty ((ks.take j).map VN.node))
              unfold PNode.high PNode.size at this
              omega
            have hmem : ks[j] ∈ ks := List.getElem_mem hjl
            have hPk : PV wr R ks[j] := (HP.out.2.2.2.2.2.1 _ hmem).only kO fun b hb => by
              have := HR.out b hb
              exact ⟨this.1, by simp only [not_or]; exact ⟨this.2.1, this.2.2.1, this.2.2.2⟩⟩
            have hsm : (ks[j]).node.small := (PNode.smallL_iff _).1 HP.out.2.2.2.2.2.2.2 _ (List.mem_map.2 ⟨_, hmem, rfl⟩)
            have hkc : ∀ q, q < 4 → ∃ b off, KA = some ⟨b, off, none⟩ ∧ wr.cell? ⟨b, off + (j * 4 + q), none⟩ = (ks[j]).cells[q]? := by
              intro q hq
              obtain ⟨b, off, cap, hv, _, _, hRb, hcell⟩ := HP.out.2.2.2.2.1.open_ (by omega)
              injection hv with h1 _ _
              have hb := HR.out b hRb
              have h2 := kidsCells_get ks j hjl q hq
              obtain ⟨u, hu⟩ : ∃ u, (ks[j]).cells[q]? = some u := ⟨(ks[j]).cells[q]'(by rw [VN.cells_length]; exact hq), List.getElem?_eq_getElem _⟩
              rw [hu] at h2 ⊢
              refine ⟨b, off, h1, ?_⟩
              rw [World.cell?_of_block (a := ⟨b, off + (j * 4 + q), none⟩) (kO.block b hb.1 (by simp only [not_or]; exact ⟨hb.2.1, hb.2.2.1, hb.2.2.2⟩)), hcell _ _ h2]
            have HI : Hid (∀ W, Below wr.heap.size wr W → Calls Try.prog 171 #[(ks[j]).agg, I (d + 1), .pointer (some ⟨cc, 0, none⟩), .pointer (some ⟨hc, 0, none⟩), .pointer (some ⟨ec, 0, none⟩), .pointer (some ⟨lc, 0, none⟩)] W fun r w' => r = .returned (.tuple #[]) ∧
                Cnt cc hc ec lc (c + 1 + PNode.sizeL ((ks.take (j + 1)).map VN.node)) (max h (d + PNode.highL 0 ((ks.take (j + 1)).map VN.node))) (PNode.errL anew e0 ((ks.take (j + 1)).map VN.node)) w' ∧ Only (fun b => b = cc ∨ b = hc ∨ b = ec) w w') := by
              intro W hb
              have hzW := hb.size
              refine (IH.out _ hmem R W (c + 1 + PNode.sizeL ((ks.take j).map VN.node)) (max h (d + PNode.highL 0 ((ks.take j).map VN.node))) (PNode.errL anew e0 ((ks.take j).map VN.node)) (d + 1) (hPk.keepB hb fun b hb1 => by have := (HR.out b hb1).1; omega) (fun b hb1 => by
                have := HR.out b hb1; exact ⟨by omega, this.2⟩) hsm ⟨kC.c_.keep hb, kC.h_.keep hb, kC.e_.keep hb, kC.l_.keep hb⟩ (by omega) (by omega) (by omega) (by omega) (by omega) (by omega)).mono ?_
              rintro r w' ⟨hr, hC', hO'⟩
              refine ⟨hr, ?_, (kO.trans (Only.of_below (S := fun b => b = cc ∨ b = hc ∨ b = ec) hb) fun i _ hi => hi).trans hO' fun i _ hi => hi⟩
              rw [her1]
              have e2 : c + 1 + (PNode.sizeL ((ks.take j).map VN.node) : Int) + ((ks[j]).node.size : Int) = c + 1 + (PNode.sizeL ((ks.take (j + 1)).map VN.node) : Int) := by rw [hsz1]; omega
              have e3 : max (max h (d + (PNode.highL 0 ((ks.take j).map VN.node) : Int))) (d + 1 + ((ks[j]).node.high : Int)) = max h (d + (PNode.highL 0 ((ks.take (j + 1)).map VN.node) : Int)) := by rw [hhi1]; omega
              rw [e2, e3] at hC'
              exact hC'
            obtain ⟨b, off, hKA, hq0⟩ := hkc 0 (by omega)
            obtain ⟨b1, off1, hKA1, hq1⟩ := hkc 1 (by omega)
            obtain ⟨b2, off2, hKA2, hq2⟩ := hkc 2 (by omega)
            obtain ⟨b3, off3, hKA3, hq3⟩ := hkc 3 (by omega)
            rw [hKA] at hKA1 hKA2 hKA3
            cases hKA1; cases hKA2; cases hKA3
            clear e1 hsub hsz1 hhi1 her1 hhb hhb0 hmem hsm hkc hst kC kO
            revert hPk HI hq0 hq1 hq2 hq3
            generalize ks[j] = V
            intro hPk HI hq0 hq1 hq2 hq3
            obtain ⟨kt, kal, kx, kav, kkv, kks⟩ := V
            obtain ⟨a5, n5, c5, a6, n6, c6, rfl, rfl⟩ := VN.forms hPk
            simp only [VN.cells, VN.agg] at hq0 hq1 hq2 hq3 HI
            simp only [Nat.add_zero, ← Nat.add_assoc] at hq0 hq1 hq2 hq3
            simp at hq0 hq1 hq2 hq3
            subst hKA
            clear hPk hjl
            go_wp2_with ((with_reducible refine (HI.out _ (by repeat (first | exact Below.refl _ _ | assumption | (refine Below.setCell ?_ (by first | (simp; done) | (simp; omega) | omega) _) | (refine Below.alloc ?_ (by first | (simp; done) | (simp; omega) | omega) _) | (refine Below.drew ?_) | (refine Below.drewN' ?_ _)))).mono ?_); rintro r w5 ⟨rfl, hC5, hO5⟩; have H5 := Lib.hid (And.intro hC5 hO5); clear hC5 hO5)
            exact ⟨⟨j + 1, by omega, by go_num, H5.out⟩, by simp [intOf]; omega⟩
          · have hjm : j = km := by omega
            subst hjm
            go_wp2_with fail
            go_end0
            have e1 : ks.take j = ks := List.take_of_length_le (by have := HP.out.2.1; omega)
            have h1 := HST.out.1
            rw [e1] at h1
            refine ⟨rfl, ?_, HST.out.2⟩
            have e2 : c + ((PNode.mk t al x (ks.map VN.node)).size : Int) = c + 1 + (PNode.sizeL (ks.map VN.node) : Int) := by
              have : (PNode.mk t al x (ks.map VN.node)).size = PNode.sizeL (ks.map VN.node) + 1 := rfl
              rw [this]; omega
            have e3 : (PNode.mk t al x (ks.map VN.node)).high = PNode.highL 0 (ks.map VN.node) := rfl
            have e4 : (PNode.mk t al x (ks.map VN.node)).err anew e = PNode.errL anew e0 (ks.map VN.node) := by rw [← HE0.out]; rfl
            rw [e2, e3, e4]
            exact h1
end Go.Proofs.Ytnnjlpkjpbbklaa

-- DomMeasure2: measure of package dom. Conditions: the plain tree lies in memory; it is not very large.
namespace Go.Proofs.Ytnnjlpkjpbbklaa
open Go.RowKit

theorem PNode.err_zero (n : PNode) : n.err anew 0 = 0 ∨ n.err anew 0 = 1 ∨ n.err anew 0 = 10 := by
  have key : ∀ (n : PNode) (e : Int), (e = 0 ∨ e = 1 ∨ e = 10) → (n.err anew e = 0 ∨ n.err anew e = 1 ∨ n.err anew e = 10) := by
    intro n
    induction n using PNode.ind with
    | h t a x ks ih =>
      intro e he
      unfold PNode.err
      have h0 : PNode.worse e (PNode.badOne t a x ks) (decide (8192 < (anew x).size)) = 0 ∨ PNode.worse e (PNode.badOne t a x ks) (decide (8192 < (anew x).size)) = 1 ∨ PNode.worse e (PNode.badOne t a x ks) (decide (8192 < (anew x).size)) = 10 := by
        unfold PNode.worse
        split
        · exact .inr (.inl rfl)
        · split
          · exact .inr (.inr rfl)
          · exact he
      generalize PNode.worse e (PNode.badOne t a x ks) (decide (8192 < (anew x).size)) = e' at h0
      clear he
      induction ks generalizing e' with
      | nil => exact h0
      | cons k ks ih2 => exact ih2 (fun k hk => ih k (by simp [hk])) _ (ih k (by simp) e' h0)
  exact key n 0 (.inl rfl)

set_option maxHeartbeats 1000000 in
theorem measure_any {w : World} {V : VN} {R : Nat → Prop} (hP : PV w R V) (hR : ∀ b, R b → b < w.heap.size) (hs : V.node.small) (hz : V.node.size ≤ 100000) :
    Calls Try.prog 123 #[V.agg] w (Ret (.tuple #[I (V.node.size : Int), I (V.node.high : Int), I (V.node.err anew 0)]) w) := by
  have hhi := PNode.high_size V.node
  have HM : Hid (∀ W, Below w.heap.size w W → Cnt (w.heap.size + 1) (w.heap.size + 1 + 1) (w.heap.size + 1 + 1 + 1) (w.heap.size + 1 + 1 + 1 + 1) 0 0 0 W → Calls Try.prog 171 #[V.agg, I 0, .pointer (some ⟨w.heap.size + 1, 0, none⟩), .pointer (some ⟨w.heap.size + 1 + 1, 0, none⟩), .pointer (some ⟨w.heap.size + 1 + 1 + 1, 0, none⟩), .pointer (some ⟨w.heap.size + 1 + 1 + 1 + 1, 0, none⟩)] W fun r w' => r = .returned (.tuple #[]) ∧
      Cnt (w.heap.size + 1) (w.heap.size + 1 + 1) (w.heap.size + 1 + 1 + 1) (w.heap.size + 1 + 1 + 1 + 1) V.node.size V.node.high (V.node.err anew 0) w' ∧ Below w.heap.size w w') := by
    intro W hb hC
    have hzW := hb.size
    refine (measure1_at (by omega) V R W 0 0 0 0 (hP.keepB hb hR) (fun b hb1 => by have := hR b hb1; omega) hs hC (by omega) (by omega) (by omega) (by omega) (by omega) (by omega)).mono ?_
    rintro r w' ⟨hr, hC', hO⟩
    have e1 : (0 : Int) + (V.node.size : Int) = V.node.size := by omega
    have e2 : max (0 : Int) (0 + (V.node.high : Int)) = V.node.high := by omega
    rw [e1, e2] at hC'
    exact ⟨hr, hC', hO.os.trans hb.os, hO.tape.trans hb.tape, hO.output.trans hb.output, Nat.le_trans hzW hO.size, fun b hb1 => (hO.block b (by omega) (by omega)).trans (hb.block b hb1)⟩
  have hsz0 : V.node.size ≤ 100000 := hz
  have hh0 : V.node.high ≤ 100000 := by omega
  obtain ⟨t, al, x, av, kv, ks⟩ := V
  obtain ⟨a5, n5, c5, a6, n6, c6, rfl, rfl⟩ := VN.forms hP
  generalize hN : (VN.mk t al x (.slice a5 n5 c5) (.slice a6 n6 c6) ks).node = nd at *
  dsimp only [VN.agg] at HM ⊢
  generalize hsz : nd.size = sz at *
  generalize hhg : nd.high = hg at *
  generalize her : nd.err anew 0 = er at *
  clear hP hR hs hN hz hhi hsz hhg her
  go_enter Try.func123, Try.ntmps123
  go_wp2_with ((with_reducible refine (HM.out _ (by repeat (first | exact Below.refl _ _ | assumption | (refine Below.setCell ?_ (by first | (simp; done) | (simp; omega) | omega) _) | (refine Below.alloc ?_ (by first | (simp; done) | (simp; omega) | omega) _) | (refine Below.drew ?_) | (refine Below.drewN' ?_ _))) ⟨(by (repeat' (first | (with_reducible assumption) | (with_reducible refine unhid ?_; with_reducible assumption) | (with_reducible refine At.fresh _ _ _ (by first | (simp; done) | (simp; omega) | omega)) | (with_reducible apply At.set') | (with_reducible apply At.far) | (with_reducible apply At.alloc) | (with_reducible apply At.drew) | (with_reducible apply At.drewN) | exact (rfl : Array.setIfInBounds _ _ _ = _) | (refine Ne.symm ?_; simp; done) | (show _ ≠ _; simp; done) | (show _ ≠ _; simp; omega) | (show _ ≠ _; omega))); (first | done | fail)), (by (repeat' (first | (with_reducible assumption) | (with_reducible refine unhid ?_; with_reducible assumption) | (with_reducible refine At.fresh _ _ _ (by first | (simp; done) | (simp; omega) | omega)) | (with_reducible apply At.set') | (with_reducible apply At.far) | (with_reducible apply At.alloc) | (with_reducible apply At.drew) | (with_reducible apply At.drewN) | exact (rfl : Array.setIfInBounds _ _ _ = _) | (refine Ne.symm ?_; simp; done) | (show _ ≠ _; simp; done) | (show _ ≠ _; simp; omega) | (show _ ≠ _; omega))); (first | done | fail)), (by (repeat' (first | (with_reducible assumption) | (with_reducible refine unhid ?_; with_reducible assumption) | (with_reducible refine At.fresh _ _ _ (by first | (simp; done) | (simp; omega) | omega)) | (with_reducible apply At.set') | (with_reducible apply At.far) | (with_reducible apply At.alloc) | (with_reducible apply At.drew) | (with_reducible apply At.drewN) | exact (rfl : Array.setIfInBounds _ _ _ = _) | (refine Ne.symm ?_; simp; done) | (show _ ≠ _; simp; done) | (show _ ≠ _; simp; omega) | (show _ ≠ _; omega))); (first | done | fail)), (by (repeat' (first | (with_reducible assumption) | (with_reducible refine unhid ?_; with_reducible assumption) | (with_reducible refine At.fresh _ _ _ (by first | (simp; done) | (simp; omega) | omega)) | (with_reducible apply At.set') | (with_reducible apply At.far) | (with_reducible apply At.alloc) | (with_reducible apply At.drew) | (with_reducible apply At.drewN) | exact (rfl : Array.setIfInBounds _ _ _ = _) | (refine Ne.symm ?_; simp; done) | (show _ ≠ _; simp; done) | (show _ ≠ _; simp; omega) | (show _ ≠ _; omega))); (first | done | fail))⟩).mono ?_); rintro r w5 ⟨rfl, hC, hO⟩; have h1 := hC.c_; have h2 := hC.h_; have h3 := hC.e_; have h1c := h1.cell; have h1f := h1.frozen; have h1l := h1.lt; have h2c := h2.cell; have h2f := h2.frozen; have h2l := h2.lt; have h3c := h3.cell; have h3f := h3.frozen; have h3l := h3.lt; have HO := Lib.hid (And.intro hC hO); clear hC hO h1 h2 h3)
  go_region
  go_wp2_with fail
  have HB5 := HO.out.2
  have hz5 := HB5.size
  have kc : At ((((w5.setCell ⟨w.heap.size + 1, 0, none⟩ (I sz)).setCell ⟨w.heap.size + 1 + 1, 0, none⟩ (I hg)).setCell ⟨w.heap.size + 1 + 1 + 1, 0, none⟩ (I er)).drew) (w.heap.size + 1) 3 #[I sz] := ((HO.out.1.c_.set' rfl).far (p := ⟨w.heap.size + 1 + 1, 0, none⟩) (by dsimp only; omega) _).far (p := ⟨w.heap.size + 1 + 1 + 1, 0, none⟩) (by dsimp only; omega) _
  have kh : At ((((w5.setCell ⟨w.heap.size + 1, 0, none⟩ (I sz)).setCell ⟨w.heap.size + 1 + 1, 0, none⟩ (I hg)).setCell ⟨w.heap.size + 1 + 1 + 1, 0, none⟩ (I er)).drew) (w.heap.size + 1 + 1) 3 #[I hg] := ((HO.out.1.h_.far (p := ⟨w.heap.size + 1, 0, none⟩) (by dsimp only; omega) _).set' rfl).far (p := ⟨w.heap.size + 1 + 1 + 1, 0, none⟩) (by dsimp only; omega) _
  have ke : At ((((w5.setCell ⟨w.heap.size + 1, 0, none⟩ (I sz)).setCell ⟨w.heap.size + 1 + 1, 0, none⟩ (I hg)).setCell ⟨w.heap.size + 1 + 1 + 1, 0, none⟩ (I er)).drew) (w.heap.size + 1 + 1 + 1) 47 #[I er] := ((HO.out.1.e_.far (p := ⟨w.heap.size + 1, 0, none⟩) (by dsimp only; omega) _).far (p := ⟨w.heap.size + 1 + 1, 0, none⟩) (by dsimp only; omega) _).set' rfl
  have hbF : Below w.heap.size w ((((w5.setCell ⟨w.heap.size + 1, 0, none⟩ (I sz)).setCell ⟨w.heap.size + 1 + 1, 0, none⟩ (I hg)).setCell ⟨w.heap.size + 1 + 1 + 1, 0, none⟩ (I er)).drew) := (by repeat (first | exact Below.refl _ _ | assumption | (refine Below.setCell ?_ (by first | (simp; done) | (simp; omega) | omega) _) | (refine Below.alloc ?_ (by first | (simp; done) | (simp; omega) | omega) _) | (refine Below.drew ?_) | (refine Below.drewN' ?_ _)))
  generalize ((((w5.setCell ⟨w.heap.size + 1, 0, none⟩ (I sz)).setCell ⟨w.heap.size + 1 + 1, 0, none⟩ (I hg)).setCell ⟨w.heap.size + 1 + 1 + 1, 0, none⟩ (I er)).drew) = wF at kc kh ke hbF ⊢
  have kcc := kc.cell
  have khc := kh.cell
  have kec := ke.cell
  exact bodyPost_ret (v := .tuple #[I (sz : Int), I (hg : Int), I er]) (by simp [results, Try.results123, go_sem, kcc, khc, kec]) rfl ⟨rfl, hbF⟩
end Go.Proofs.Ytnnjlpkjpbbklaa

-- DomPut: Graft's own function of package dom: a plain tree as a loose one. Conditions: the tree lies in memory and is sound; the plain tree may be.
namespace Go.Proofs.Ytnnjlpkjpbbklaa
open Go.RowKit

namespace PNode
theorem okL_append {f : Bytes → Bytes} (a b : List PNode) : okL f (a ++ b) ↔ okL f a ∧ okL f b := by
  induction a with
  | nil => simp [okL]
  | cons k ks ih => simp only [List.cons_append, okL, ih, and_assoc]
theorem highL_le (b : Nat) (l1 l2 : List PNode) : highL b l1 ≤ highL b (l1 ++ l2) := by
  rw [highL_fold, highL_fold, List.foldl_append, ← highL_fold, ← highL_fold]
  exact DT.highL_ge _ _
end PNode

section
variable {tb : Nat} {T T2 : DT} {nv nv1 : Value} {G G1 : List (Option NG)}
theorem Mut.seq {S : Nat → Prop} {w w1 W w2 : World} (ho : Only S w w1) (hs : ∀ b ∈ repBlocks tb nv1 G1, S b ∨ w.heap.size ≤ b) (hb : Below w1.heap.size w1 W) (h : Mut tb T2 (fun b => b ∈ repBlocks tb nv1 G1) W w2) : Mut tb T2 S w w2 := by
  obtain ⟨⟨nv2, G2, hr2, hs2⟩, ho2⟩ := h
  have hz := ho.size
  have hz2 := hb.size
  refine ⟨⟨nv2, G2, hr2, fun b hb1 => ?_⟩, (ho.trans (Only.of_below (S := S) hb) fun i _ hi => hi).trans ho2 fun i hi hx => ?_⟩
  · rcases hs2 b hb1 with h1 | h1
    · exact hs b h1
    · right; omega
  · rcases hs i hx with h1 | h1
    · exact h1
    · omega

/-- Where Graft's own function stands behind a kid. -/
def PutMid (tb : Nat) (T' : DT) (tc : Nat) (nv : Value) (G : List (Option NG)) (w w5 : World) : Prop := ∃ nv5 G5, Rep w5 tb T' nv5 G5 ∧ (∀ b ∈ repBlocks tb nv5 G5, b ∈ repBlocks tb nv G ∨ w.heap.size ≤ b) ∧ Only (fun b => b ∈ repBlocks tb nv G) w w5 ∧ tc ∉ repBlocks tb nv5 G5 ∧ At w5 tc 36 #[.pointer (some ⟨tb, 0, none⟩)]

theorem keep3 {w' : World} {tc tb g id : Nat} {t1 t2 t3 : TypeId} {p a b c nv q : Value} {cur : Array Value} (h1 : At w' tc t1 #[p]) (h2 : At w' tb t2 #[a, b, c, nv]) (h3 : At w' g t3 cur) (hi : cur[id]? = some q) :
    w'.cell? ⟨tc, 0, none⟩ = some p ∧ w'.cell? ⟨tb, 3, none⟩ = some nv ∧ w'.cell? ⟨g, id, none⟩ = some q := ⟨h1.cell 0, h2.cell 3, (h3.cell id).trans hi⟩

theorem box_cells {w' : World} {tc B : Nat} {t1 t2 : TypeId} {p a b c d : Value} (h1 : At w' tc t1 #[p]) (h2 : At w' B t2 #[a, b, c, d]) :
    w'.cell? ⟨tc, 0, none⟩ = some p ∧ w'.cell? ⟨B, 0, none⟩ = some a ∧ w'.cell? ⟨B, 1, none⟩ = some b ∧ w'.cell? ⟨B, 2, none⟩ = some c := ⟨h1.cell 0, h2.cell 0, h2.cell 1, h2.cell 2⟩

set_option maxRecDepth 100000 in
set_option maxHeartbeats 4000000 in
theorem put_at {tc pc : Nat} : ∀ (V : VN) (R : Nat → Prop) (w : World) (T : DT) (nv : Value) (G : List (Option NG)), Rep w tb T nv G → T.WF → PV w R V → (∀ b, R b → b < w.heap.size ∧ b ∉ repBlocks tb nv G) → V.node.small → V.node.ok anew → (T.count : Int) + V.node.size ≤ T.cap → (V.node.high : Int) ≤ T.dep →
    At w tc 36 #[.pointer (some ⟨tb, 0, none⟩)] → At w pc 62 #[.func (.func 125) #[] #[.pointer (some ⟨tc, 0, none⟩), .pointer (some ⟨pc, 0, none⟩)]] → tc ∉ repBlocks tb nv G → pc ∉ repBlocks tb nv G →
    Calls Try.prog 125 #[V.agg, .pointer (some ⟨tc, 0, none⟩), .pointer (some ⟨pc, 0, none⟩)] w fun e w' => e = .returned (I ((DT.graftP anew V.node T).1 : Nat)) ∧ Mut tb (DT.graftP anew V.node T).2 (fun b => b ∈ repBlocks tb nv G) w w' := by
  intro V
  induction V using VN.ind with
  | h t al x av kv ks ih =>
    intro R w T nv G h hW hP hR hs hok hcap hdep htc hpc htcn hpcn
    cases hP with
    | mk ha hk hkids =>
      rw [VN.node_mk] at hs hok hcap hdep ⊢
      dsimp only [VN.agg]
      unfold PNode.small at hs
      obtain ⟨hs1, hs2, hs3⟩ := hs
      unfold PNode.ok at hok
      obtain ⟨hb1, hb2, hb3⟩ := hok
      have hsz : (PNode.mk t al x (ks.map VN.node)).size = PNode.sizeL (ks.map VN.node) + 1 := rfl
      have hhg : (PNode.mk t al x (ks.map VN.node)).high = PNode.highL 0 (ks.map VN.node) := rfl
      rw [hsz] at hcap
      rw [hhg] at hdep
      have hkl : ks.length ≤ PNode.sizeL (ks.map VN.node) := by have := PNode.sizeL_length (ks.map VN.node); simpa using this
      have hl := hW.nodes_le
      have hcap2 := hW.cap2
      obtain ⟨AA, ac, hav, hac1, hac2, hA0⟩ := ha.form
      obtain ⟨KA, kc, hkv, hkc1, hkc2, hK0⟩ := hk.form
      subst hav hkv
      -- the node added first
      have hroom : T.roomFor 1 = true := by simp only [DT.roomFor, decide_eq_true_eq]; omega
      have htag : (t = 0 ∧ al = [] ∧ ks.map VN.node = []) ∨ (1 ≤ t ∧ t ≤ 16) := by
        unfold PNode.badOne at hb1
        split at hb1
        · rename_i e
          simp at hb1
          exact .inl ⟨e, hb1.1, by simpa using hb1.2⟩
        · simp at hb1
          exact .inr (DT.elementOk_iff.1 hb1.1)
      have hT1 : (T.addAt ⟨t, al, anew x, [], none⟩).WF := hW.addAt hroom rfl rfl (by show 0 ≤ t ∧ t ≤ 16; omega) hb2
      have hid : (T.addAt ⟨t, al, anew x, [], none⟩).at_ T.slot = some ⟨t, al, anew x, [], none⟩ := by rw [DT.at_addAt, if_pos rfl]
      have hh1 : (T.addAt ⟨t, al, anew x, [], none⟩).heightF DT.fuel T.slot = 0 := by rw [hT1.height_step hid]; rfl
      have hc1 : (T.addAt ⟨t, al, anew x, [], none⟩).count = T.count + 1 := DT.count_addAt _
      have hcp1 : (T.addAt ⟨t, al, anew x, [], none⟩).cap = T.cap := DT.addAt_cap _
      have hdp1 : (T.addAt ⟨t, al, anew x, [], none⟩).dep = T.dep := DT.addAt_dep _
      have hstep : Hid (∀ l1 l2, ks.map VN.node = l1 ++ l2 → DT.PutL anew (T.addAt ⟨t, al, anew x, [], none⟩) (DT.graftL anew l1 T.slot (T.addAt ⟨t, al, anew x, [], none⟩)) T.slot ⟨t, al, anew x, [], none⟩ l1 ∧
          ∀ k l3, l2 = k :: l3 → k.ok anew ∧ ((DT.graftL anew l1 T.slot (T.addAt ⟨t, al, anew x, [], none⟩)).count : Int) + k.size ≤ (DT.graftL anew l1 T.slot (T.addAt ⟨t, al, anew x, [], none⟩)).cap ∧ (k.high : Int) ≤ (DT.graftL anew l1 T.slot (T.addAt ⟨t, al, anew x, [], none⟩)).dep) := by
        intro l1 l2 e
        rw [e] at hb3 hcap hdep
        rw [PNode.okL_append] at hb3
        rw [PNode.sizeL_append] at hcap
        have hge : PNode.highL 0 l1 ≤ PNode.highL 0 (l1 ++ l2) := PNode.highL_le _ _ _
        have hL := DT.graft_list (f := anew) l1 T.slot (T.addAt ⟨t, al, anew x, [], none⟩) _ hT1 hb3.1 hid rfl (fun h => by
          rcases htag with ⟨_, _, e'⟩ | e'
          · rw [e] at e'; exact absurd (List.append_eq_nil_iff.1 e').1 h
          · show t ≠ 0; omega) (by rw [hc1, hcp1]; omega) (by rw [hh1, hdp1]; omega)
        refine ⟨hL, fun k l3 e2 => ?_⟩
        subst e2
        have h1 := hb3.2
        unfold PNode.okL at h1
        rw [PNode.sizeL_cons] at hcap
        have h2 : k.high + 1 ≤ PNode.highL 0 (l1 ++ k :: l3) := by
          have h3 : l1 ++ k :: l3 = (l1 ++ [k]) ++ l3 := by simp
          have h4 : PNode.highL 0 (l1 ++ [k]) ≤ PNode.highL 0 (l1 ++ k :: l3) := by rw [h3]; exact PNode.highL_le _ _ _
          rw [PNode.highL_append] at h4
          omega
        rw [hL.count, hL.cap, hL.dep, hc1, hcp1, hdp1]
        exact ⟨h1.1, by omega, by omega⟩
      have hHI : T.slot = T.slot := rfl
      have HAn := Lib.hid (fun (W : World) => anew_any (w := W) x (by omega))
      have HAd := Lib.hid (fun (W : World) (hb : Below w.heap.size w W) => add_any (h.keep hb) (S := fun b => b ∈ repBlocks tb nv G) (fun b hb1 => hb1) hl (tag := t) (text := anew x) (al := al) (ha.reads.keep hb) (by omega))
      have hgr : DT.graftP anew (.mk t al x (ks.map VN.node)) T = (T.slot, DT.graftL anew (ks.map VN.node) T.slot (T.addAt ⟨t, al, anew x, [], none⟩)) := rfl
      rw [hgr]
      have htcl := htc.lt
      have hpcl := hpc.lt
      have hblk := h.lt
      have HX := Lib.hid (And.intro h (And.intro hR (And.intro hk (And.intro hkids (And.intro hs3 (And.intro htc (And.intro hpc (And.intro htcn (And.intro hpcn hblk)))))))))
      have htcc := htc.cell
      have hpcc := hpc.cell
      have kTC := Lib.hid htc
      have IH := Lib.hid ih
      have HGR := Lib.hid hgr
      have HMS : Hid (∀ b ∈ repBlocks tb nv G, b < w.heap.size) := hblk
      generalize hAX : anew x = ax at *
      generalize hKM : ks.length = km at *
      generalize hAM : al.length = am at *
      generalize hT1e : T.addAt ⟨t, al, ax, [], none⟩ = T1 at *
      generalize hSL : T.slot = sl at *
      have HL := Lib.hid (And.intro hKM (And.intro hAM hAX))
      have hkml : (km : Int) ≤ 2000 := by omega
      clear h hW hR ha hk hkids hs1 hs2 hs3 hb1 hb2 hb3 hcap hdep hsz hhg hkl hA0 hK0 hroom htag hT1 hid hh1 hc1 hcp1 hdp1 ih hgr htc hpc htcn hpcn hblk hKM hAM hAX hT1e hSL hHI hl
      go_enter Try.func125, Try.ntmps125
      go_upto_region 1 with fail
      go_cut [5] (fun s5 wc => s5 = I (sl : Int) ∧ Mut tb T1 (fun b => b ∈ repBlocks tb nv G) w wc ∧ At wc w.heap.size 41 #[I t, .slice AA am ac, .string x, .slice KA km kc])
      case first =>
        go_region_held3 (fun w' => w'.cell? ⟨tc, 0, none⟩ = some (.pointer (some ⟨tb, 0, none⟩)) ∧ w'.cell? ⟨w.heap.size, 0, none⟩ = some (I t) ∧ w'.cell? ⟨w.heap.size, 1, none⟩ = some (.slice AA am ac) ∧ w'.cell? ⟨w.heap.size, 2, none⟩ = some (.string x)) (exact box_cells (t1 := 36) (t2 := 41) (d := .slice KA km kc) (by (repeat' (first | (with_reducible assumption) | (with_reducible refine unhid ?_; with_reducible assumption) | (with_reducible refine At.fresh _ _ _ (by first | (simp; done) | (simp; omega) | omega)) | (with_reducible apply At.set') | (with_reducible apply At.far) | (with_reducible apply At.alloc) | (with_reducible apply At.drew) | (with_reducible apply At.drewN) | exact (rfl : Array.setIfInBounds _ _ _ = _) | (refine Ne.symm ?_; simp; done) | (show _ ≠ _; simp; done) | (show _ ≠ _; simp; omega) | (show _ ≠ _; omega))); (first | done | fail)) (by (repeat' (first | (with_reducible assumption) | (with_reducible refine unhid ?_; with_reducible assumption) | (with_reducible refine At.fresh _ _ _ (by first | (simp; done) | (simp; omega) | omega)) | (with_reducible apply At.set') | (with_reducible apply At.far) | (with_reducible apply At.alloc) | (with_reducible apply At.drew) | (with_reducible apply At.drewN) | exact (rfl : Array.setIfInBounds _ _ _ = _) | (refine Ne.symm ?_; simp; done) | (show _ ≠ _; simp; done) | (show _ ≠ _; simp; omega) | (show _ ≠ _; omega))); (first | done | fail))) (first
          | ((with_reducible refine (HAn.out _).mono ?_); rintro e w1 ⟨rfl, hb⟩; have hz_w1 := hb.size; (try simp only [World.size_alloc, World.size_setCell, World.size_drew, size_drewN'] at hz_w1); have k0_w1 : At w1 (w.heap.size) 41 #[I t, .slice AA am ac, .string x, .slice KA km kc] := At.keep (by (repeat' (first | (with_reducible assumption) | (with_reducible refine unhid ?_; with_reducible assumption) | (with_reducible refine At.fresh _ _ _ (by first | (simp; done) | (simp; omega) | omega)) | (with_reducible apply At.set') | (with_reducible apply At.far) | (with_reducible apply At.alloc) | (with_reducible apply At.drew) | (with_reducible apply At.drewN) | exact (rfl : Array.setIfInBounds _ _ _ = _) | (refine Ne.symm ?_; simp; done) | (show _ ≠ _; simp; done) | (show _ ≠ _; simp; omega) | (show _ ≠ _; omega))); (first | done | fail)) hb; have k0_w1c := At.cell k0_w1; have k0_w1f := At.frozen k0_w1; have k0_w1h := Lib.hid k0_w1; clear k0_w1; have k1_w1 : At w1 (tc) 36 #[.pointer (some ⟨tb, 0, none⟩)] := At.keep (by (repeat' (first | (with_reducible assumption) | (with_reducible refine unhid ?_; with_reducible assumption) | (with_reducible refine At.fresh _ _ _ (by first | (simp; done) | (simp; omega) | omega)) | (with_reducible apply At.set') | (with_reducible apply At.far) | (with_reducible apply At.alloc) | (with_reducible apply At.drew) | (with_reducible apply At.drewN) | exact (rfl : Array.setIfInBounds _ _ _ = _) | (refine Ne.symm ?_; simp; done) | (show _ ≠ _; simp; done) | (show _ ≠ _; simp; omega) | (show _ ≠ _; omega))); (first | done | fail)) hb; have k1_w1c := At.cell k1_w1; have k1_w1f := At.frozen k1_w1; have k1_w1h := Lib.hid k1_w1; clear k1_w1; have hb_w1 : Below w.heap.size w w1 := Below.trans (by exact (by repeat (first | exact Below.refl _ _ | assumption | (refine Below.setCell ?_ (by first | (simp; done) | (simp; omega) | omega) _) | (refine Below.alloc ?_ (by first | (simp; done) | (simp; omega) | omega) _) | (refine Below.drew ?_) | (refine Below.drewN' ?_ _)))) (hb.mono (by first | (simp; done) | (simp; omega) | omega)); obtain ⟨hc_w1, hf_w1⟩ := bcell hb_w1; clear hb)
          | ((with_reducible refine (HAd.out _ (by repeat (first | exact Below.refl _ _ | assumption | (refine Below.setCell ?_ (by first | (simp; done) | (simp; omega) | omega) _) | (refine Below.alloc ?_ (by first | (simp; done) | (simp; omega) | omega) _) | (refine Below.drew ?_) | (refine Below.drewN' ?_ _)))).mono ?_); rintro e w2 ⟨rfl, hM⟩; have hMO := hM.2; have hzM := hMO.size; (try simp only [World.size_alloc, World.size_drew] at hzM); have k0_w2 : At w2 w.heap.size 41 #[I t, .slice AA am ac, .string x, .slice KA km kc] := (hMO.block _ k0_w1h.out.lt (fun hx => by have := HMS.out _ hx; omega)).trans k0_w1h.out; have k1_w2 : At w2 tc 36 #[.pointer (some ⟨tb, 0, none⟩)] := (hMO.block _ k1_w1h.out.lt HX.out.2.2.2.2.2.2.2.1).trans k1_w1h.out; have k0_w2h := Lib.hid k0_w2; have k1_w2h := Lib.hid k1_w2; have HMM := Lib.hid hM; clear hM hMO k0_w2 k1_w2))
        all_goals go_wp2_with fail
        all_goals go_meet
        all_goals exact ⟨rfl, HMM.out.after (by repeat (first | exact Below.refl _ _ | assumption | (refine Below.setCell ?_ (by first | (simp; done) | (simp; omega) | omega) _) | (refine Below.alloc ?_ (by first | (simp; done) | (simp; omega) | omega) _) | (refine Below.drew ?_) | (refine Below.drewN' ?_ _))), k0_w2h.out⟩
      case rest =>
        obtain ⟨rfl, hM2, kB2⟩ := hcut
        obtain ⟨w2, rfl⟩ : ∃ w2, w2 = wc := ⟨_, rfl⟩
        have kB2c := kB2.cell
        have kB2l := kB2.lt
        have HM2 := Lib.hid hM2
        have hz2 := hM2.2.size
        clear hM2 kB2
        go_upto_region 3 with fail
        go_loopw [7, 8, 22] (fun _ _ s22 wr => ∃ j : Nat, j ≤ km ∧ s22 = .int .i64 (j : Int) ∧ Hid (Mut tb (DT.graftL anew ((ks.take j).map VN.node) sl T1) (fun b => b ∈ repBlocks tb nv G) w wr)) (fun _ _ s22 _ => km - (intOf s22).toNat)
        case atStart => exact ⟨0, Nat.zero_le _, rfl, HM2.out⟩
        case round =>
          obtain ⟨j, hj, rfl, hst⟩ := hrel
          obtain ⟨⟨nv1, G1, hr1, hs1⟩, ho1⟩ := hst.out
          have hzr := ho1.size
          have kt1 : At wr tc 36 #[.pointer (some ⟨tb, 0, none⟩)] := (ho1.block _ htcl HX.out.2.2.2.2.2.2.2.1).trans HX.out.2.2.2.2.2.1
          have kp1 := (ho1.block _ hpcl HX.out.2.2.2.2.2.2.2.2.1).trans HX.out.2.2.2.2.2.2.1
          have kp1 : At wr pc 62 #[.func (.func 125) #[] #[.pointer (some ⟨tc, 0, none⟩), .pointer (some ⟨pc, 0, none⟩)]] := kp1
          have kp1c := kp1.cell
          have kp1l := kp1.lt
          have htn1 : tc ∉ repBlocks tb nv1 G1 := fun hx => by
            rcases hs1 _ hx with h1 | h1
            · exact HX.out.2.2.2.2.2.2.2.1 h1
            · omega
          have hpn1 : pc ∉ repBlocks tb nv1 G1 := fun hx => by
            rcases hs1 _ hx with h1 | h1
            · exact HX.out.2.2.2.2.2.2.2.2.1 h1
            · omega
          by_cases hlt : j < km
          · have hjl : j < ks.length := by have := HL.out.1; omega
            have e1 : ks.map VN.node = (ks.take j).map VN.node ++ ((ks[j]).node :: (ks.drop (j + 1)).map VN.node) := by
              rw [← List.map_cons, ← List.drop_eq_getElem_cons hjl, ← List.map_append, List.take_append_drop]
            have e2 : (ks.take (j + 1)).map VN.node = (ks.take j).map VN.node ++ [(ks[j]).node] := by rw [List.take_add_one, List.getElem?_eq_getElem hjl, List.map_append]; rfl
            obtain ⟨hPL, hnext⟩ := hstep.out _ _ e1
            obtain ⟨hkok, hkcap, hkhi⟩ := hnext _ _ rfl
            have hPP := DT.graft_put (f := anew) _ _ hPL.wf hkok hkcap hkhi
            have hmem : ks[j] ∈ ks := List.getElem_mem hjl
            have hRn : ∀ b, R b → b < w.heap.size ∧ b ∉ repBlocks tb nv G := HX.out.2.1
            have hPk : PV wr R ks[j] := (HX.out.2.2.2.1 _ hmem).only ho1 hRn
            have hsm : (ks[j]).node.small := (PNode.smallL_iff _).1 HX.out.2.2.2.2.1 _ (List.mem_map.2 ⟨_, hmem, rfl⟩)
            have hkc : ∀ q, q < 4 → ∃ b off, KA = some ⟨b, off, none⟩ ∧ wr.cell? ⟨b, off + (j * 4 + q), none⟩ = (ks[j]).cells[q]? := by
              intro q hq
              have hrq := HX.out.2.2.1
              obtain ⟨b, off, cap, hv, _, _, hRb, hcell⟩ := hrq.open_ (by omega)
              injection hv with h1 _ _
              have hb := hRn b hRb
              have h2 := kidsCells_get ks j hjl q hq
              obtain ⟨u, hu⟩ : ∃ u, (ks[j]).cells[q]? = some u := ⟨(ks[j]).cells[q]'(by rw [VN.cells_length]; exact hq), List.getElem?_eq_getElem _⟩
              rw [hu] at h2 ⊢
              refine ⟨b, off, h1, ?_⟩
              rw [World.cell?_of_block (a := ⟨b, off + (j * 4 + q), none⟩) (ho1.block b hb.1 hb.2), hcell _ _ h2]
            have HI : Hid (∀ W, Below wr.heap.size wr W → Calls Try.prog 125 #[(ks[j]).agg, .pointer (some ⟨tc, 0, none⟩), .pointer (some ⟨pc, 0, none⟩)] W fun e w' => e = .returned (I ((DT.graftP anew (ks[j]).node (DT.graftL anew ((ks.take j).map VN.node) sl T1)).1 : Nat)) ∧
                PutMid tb (DT.graftP anew (ks[j]).node (DT.graftL anew ((ks.take j).map VN.node) sl T1)).2 tc nv G w w') := by
              intro W hb
              have hzW := hb.size
              have hI := IH.out _ hmem R W _ nv1 G1 (hr1.keep hb) hPL.wf (hPk.keepB hb fun b hb1 => by have := (hRn b hb1).1; omega) (fun b hb1 => ⟨by have := (hRn b hb1).1; omega, fun hx => by
                rcases hs1 b hx with h1 | h1
                · exact (hRn b hb1).2 h1
                · have := (hRn b hb1).1; omega⟩) hsm hkok hkcap hkhi (kt1.keep hb) (kp1.keep hb) htn1 hpn1
              refine hI.mono ?_
              rintro e w' ⟨he, ⟨nv5, G5, hr5, hs5⟩, ho5⟩
              refine ⟨he, nv5, G5, hr5, fun b hb1 => ?_, (ho1.trans (Only.of_below (S := fun b => b ∈ repBlocks tb nv G) hb) fun i _ hi => hi).trans ho5 fun i hi hx => ?_, fun hx => ?_, (ho5.block tc (by have := kt1.lt; omega) htn1).trans (kt1.keep hb)⟩
              · rcases hs5 b hb1 with h1 | h1
                · exact hs1 b h1
                · right; omega
              · rcases hs1 i hx with h1 | h1
                · exact h1
                · omega
              · rcases hs5 tc hx with h1 | h1
                · exact htn1 h1
                · have := kt1.lt; omega
            obtain ⟨b, off, hKA, hq0⟩ := hkc 0 (by omega)
            obtain ⟨b1, off1, hKA1, hq1⟩ := hkc 1 (by omega)
            obtain ⟨b2, off2, hKA2, hq2⟩ := hkc 2 (by omega)
            obtain ⟨b3, off3, hKA3, hq3⟩ := hkc 3 (by omega)
            rw [hKA] at hKA1 hKA2 hKA3
            cases hKA1; cases hKA2; cases hKA3
            have HS1 := Lib.hid (And.intro hs1 (And.intro ho1 htn1))
            have hTs : Hid (∀ (T' : DT), T' = T' → True) := fun _ _ => trivial
            have hnode := hPL.node
            have hPPn := hPP.node
            have hPPnew := hPP.new
            have hPPg := hPP.grown
            have hPPl := hPP.wf.nodes_le
            have hPPw := hPP.wf
            have hLink := DT.graftL_append (f := anew) ((ks.take j).map VN.node) (ks[j]).node sl T1
            rw [← e2] at hLink
            clear e1 e2 hPL hnext hkok hkcap hkhi hPP hmem hRn hsm hkc hst kp1 hr1 hs1 ho1 htn1 hpn1 hTs
            revert hPk HI hq0 hq1 hq2 hq3 hnode hPPn hPPnew hPPg hPPl hPPw hLink
            generalize ks[j] = V
            generalize DT.graftL anew ((ks.take j).map VN.node) sl T1 = Tj
            intro hPk HI hq0 hq1 hq2 hq3 hnode hPPn hPPnew hPPg hPPl hPPw hLink
            generalize hid' : (DT.graftP anew V.node Tj).1 = kid at *
            generalize hT' : (DT.graftP anew V.node Tj).2 = T' at *
            have HTT := Lib.hid (And.intro hid' hT')
            obtain ⟨kt, kal, kx, kav, kkv, kks⟩ := V
            obtain ⟨a5, n5, c5, a6, n6, c6, rfl, rfl⟩ := VN.forms hPk
            simp only [VN.cells, VN.agg] at hq0 hq1 hq2 hq3 HI
            simp only [Nat.add_zero, ← Nat.add_assoc] at hq0 hq1 hq2 hq3
            simp at hq0 hq1 hq2 hq3
            obtain ⟨mi, hmi, hmiu⟩ := hnode
            obtain ⟨mk, hmk, hmku⟩ := hPPn
            have hmi' := hPPg.at_ _ _ hmi
            have hne : sl ≠ kid := fun e => by rw [e, hPPnew] at hmi; cases hmi
            have hlink := DT.link_eq hmi' hmk
            rw [hlink] at hLink
            have HLK := Lib.hid (And.intro hLink (And.intro hmi' (And.intro hmk (And.intro hne hmku))))
            have HPL2 := Lib.hid hPPl
            have HWF := Lib.hid hPPw
            have hslr := DT.at_lt hmi'
            have hkdr := DT.at_lt hmk
            subst hKA
            clear hPk hjl hid' hT' hmi hmk hmi' hlink hLink hPPg hPPnew hmiu hmku hPPw hPPl
            have kt1h := Lib.hid kt1
            clear kt1
            go_upto_region 6 with ((with_reducible refine (HI.out _ (by repeat (first | exact Below.refl _ _ | assumption | (refine Below.setCell ?_ (by first | (simp; done) | (simp; omega) | omega) _) | (refine Below.alloc ?_ (by first | (simp; done) | (simp; omega) | omega) _) | (refine Below.drew ?_) | (refine Below.drewN' ?_ _)))).mono ?_); rintro r w5 ⟨rfl, hM5⟩; have HM5 := Lib.hid hM5; clear hM5)
            obtain ⟨nv5, G5, hr5, hs5, ho5, htn5, kt5⟩ := HM5.out
            obtain ⟨g5, cap5, gi, hv5, hcp5, hmx5, hil5, hcelli, hri, hgi⟩ := hr5.place_open HLK.out.2.1
            obtain ⟨g5', cap5', gk, hv5', _, _, hkl5, hcellk, hrk, hgk⟩ := hr5.place_open HLK.out.2.2.1
            have eg : g5' = g5 := by
              rw [hv5] at hv5'
              injection hv5' with h1 _ _
              injection h1 with h1
              injection h1 with h1 _ _
              exact h1.symm
            rw [eg] at hcellk
            clear hv5' eg
            obtain ⟨cur, hcur⟩ : ∃ cur, At w5 g5 134 cur := by
              rcases hr5.row.2 with ⟨h1, _⟩ | ⟨g', c', cur, h1, _, h2, _⟩
              · rw [hv5] at h1; cases h1
              · rw [hv5] at h1
                injection h1 with h1 _ _
                injection h1 with h1
                injection h1 with h1 _ _
                rw [h1]
                exact ⟨cur, h2⟩
            have hcuri : cur[sl]? = some (.pointer (some ⟨gi.b, 0, none⟩)) := by rw [← hcur.cell]; exact hcelli
            have hcurk : cur[kid]? = some (.pointer (some ⟨gk.b, 0, none⟩)) := by rw [← hcur.cell]; exact hcellk
            obtain ⟨KA5, kc5, hkv5, hkcap5, hkmx5, _⟩ := hri.2.2.form
            have hki5 : mi.kids.length ≤ 2000 := by
              exact Nat.le_trans (kids_len HWF.out HLK.out.2.1) HPL2.out
            have kN := hri.1
            rw [hkv5] at kN
            have kK := hrk.1
            have hrow5 := hri.2.2
            have ktree := hr5.tree
            rw [hv5] at ktree
            have n1 : gi.b ≠ gk.b := fun e => hr5.node_apart hgi hgk HLK.out.2.2.2.1 gi.b (by simp [NG.blocks]) (by rw [e]; simp [NG.blocks])
            have hgi5 : ∀ b ∈ gi.blocks, b ≠ tb ∧ b ≠ g5 := fun b hb => by
              have := hr5.node_ne hgi b hb
              rw [hv5] at this
              exact ⟨this.1, fun e => this.2 (by rw [e]; rfl)⟩
            have hgk5 : ∀ b ∈ gk.blocks, b ≠ tb ∧ b ≠ g5 := fun b hb => by
              have := hr5.node_ne hgk b hb
              rw [hv5] at this
              exact ⟨this.1, fun e => this.2 (by rw [e]; rfl)⟩
            have hgtb : g5 ≠ tb := hr5.row_ne (by rw [hv5]; rfl)
            have hmemi : ∀ b ∈ gi.blocks, b ∈ repBlocks tb nv5 G5 := fun b hb => mem_repBlocks_node hgi hb
            have n2 : gi.b ≠ tb ∧ gi.b ≠ g5 ∧ gi.b ≠ tc := ⟨(hgi5 _ (by simp [NG.blocks])).1, (hgi5 _ (by simp [NG.blocks])).2, fun e => htn5 (by rw [← e]; exact hmemi _ (by simp [NG.blocks]))⟩
            have n3 : ∀ b, gi.kv.ownBlock = some b → b ≠ gi.b ∧ b ≠ gk.b ∧ b ≠ tb ∧ b ≠ g5 ∧ b ≠ tc := fun b hb => by
              have hm : b ∈ gi.blocks := by simp [NG.blocks, hb]
              refine ⟨fun e => (NG.b_ne (hr5.node_nodup hgi)).2.1 (by rw [hb, e]), fun e => hr5.node_apart hgi hgk HLK.out.2.2.2.1 b hm (by rw [e]; simp [NG.blocks]), (hgi5 b hm).1, (hgi5 b hm).2, fun e => htn5 (by rw [← e]; exact hmemi b hm)⟩
            rw [hkv5] at n3
            have htb5 : tb ≠ tc := fun e => htn5 (by rw [← e]; simp [repBlocks])
            have hg5c : g5 ≠ tc := fun e => htn5 (by rw [← e]; simp [repBlocks, hv5, Value.ownBlock])
            obtain ⟨kn, hkn⟩ : ∃ kn, kn = mi.kids.length := ⟨_, rfl⟩
            rw [← hkn] at kN hrow5 hki5 hkcap5 hkv5 n3
            rw [hkv5] at hrow5
            have HKN := Lib.hid hkn
            have kt5c := kt5.cell
            have ktreec := ktree.cell
            have kNc := kN.cell
            have kNl := kN.lt
            have hcurc : ∀ i q, cur[i]? = some q → w5.cell? ⟨g5, i, none⟩ = some q := fun i q h => (hcur.cell i).trans h
            have kt5h := Lib.hid kt5
            have ktreeh := Lib.hid ktree
            have kNh := Lib.hid kN
            have kKh := Lib.hid kK
            have hcurh := Lib.hid hcur
            have HN3 := Lib.hid n3
            have HRow := Lib.hid hrow5
            have HR5 := Lib.hid (And.intro hr5 (And.intro hs5 (And.intro ho5 (And.intro hri (And.intro hgi (And.intro hrk (And.intro hgk hkv5)))))))
            have Hn := Lib.hid (And.intro n1 (And.intro n2 (And.intro htb5 (And.intro hg5c (And.intro hgtb (hgk5 gk.b (by simp [NG.blocks])))))))
            subst hv5
            have hN5 : ((T'.nodes.length : Nat) : Int) ≤ 2000 := by have := HPL2.out; omega
            have hil5' : (sl : Int) < (T'.nodes.length : Nat) := by omega
            have hkl5' : (kid : Int) < (T'.nodes.length : Nat) := by omega
            generalize T'.nodes.length = N5 at *
            have hgn1 : gi.b ≠ gk.b := Hn.out.1
            have hgn2 : gi.b ≠ tb := Hn.out.2.1.1
            have hgn3 : gi.b ≠ g5 := Hn.out.2.1.2.1
            have hgn4 : gi.b ≠ tc := Hn.out.2.1.2.2
            have hgn1' : gk.b ≠ gi.b := fun e => hgn1 e.symm
            have hgn2' : tb ≠ gi.b := fun e => hgn2 e.symm
            have hgn3' : g5 ≠ gi.b := fun e => hgn3 e.symm
            have hgn4' : tc ≠ gi.b := fun e => hgn4 e.symm
            clear hr5 hs5 ho5 hri hgi hrk hgk hkv5 n1 n2 n3 htb5 hg5c hgtb hgk5 hgi5 hmemi kt5 ktree kN kK hcur hrow5 hkn htn5 hcurc hcellk hcelli
            obtain ⟨i0, hi0, hz0, hz1, hz2⟩ := info_parts infoInt
            refine wp_region_held_drew (S := (fun w' => w'.cell? ⟨tc, 0, none⟩ = some (.pointer (some ⟨tb, 0, none⟩)) ∧ w'.cell? ⟨tb, 3, none⟩ = some (.slice (some ⟨g5, 0, none⟩) N5 cap5) ∧ w'.cell? ⟨g5, sl, none⟩ = some (.pointer (some ⟨gi.b, 0, none⟩)))) (by kernel_rfl) ?_ (fun hHeld => ?_)
            · (try dsimp only); exact keep3 (t1 := 36) (t2 := 143) (t3 := 134) (a := I T'.cap) (b := I T'.dep) (c := I (T'.count : Int)) (cur := cur) (by (repeat' (first | (with_reducible assumption) | (with_reducible refine unhid ?_; with_reducible assumption) | (with_reducible refine At.fresh _ _ _ (by first | (simp; done) | (simp; omega) | omega)) | (with_reducible apply At.set') | (with_reducible apply At.far) | (with_reducible apply At.alloc) | (with_reducible apply At.drew) | (with_reducible apply At.drewN) | exact (rfl : Array.setIfInBounds _ _ _ = _) | (refine Ne.symm ?_; simp; done) | (show _ ≠ _; simp; done) | (show _ ≠ _; simp; omega) | (show _ ≠ _; omega))); (first | done | fail)) (by (repeat' (first | (with_reducible assumption) | (with_reducible refine unhid ?_; with_reducible assumption) | (with_reducible refine At.fresh _ _ _ (by first | (simp; done) | (simp; omega) | omega)) | (with_reducible apply At.set') | (with_reducible apply At.far) | (with_reducible apply At.alloc) | (with_reducible apply At.drew) | (with_reducible apply At.drewN) | exact (rfl : Array.setIfInBounds _ _ _ = _) | (refine Ne.symm ?_; simp; done) | (show _ ≠ _; simp; done) | (show _ ≠ _; simp; omega) | (show _ ≠ _; omega))); (first | done | fail)) (by (repeat' (first | (with_reducible assumption) | (with_reducible refine unhid ?_; with_reducible assumption) | (with_reducible refine At.fresh _ _ _ (by first | (simp; done) | (simp; omega) | omega)) | (with_reducible apply At.set') | (with_reducible apply At.far) | (with_reducible apply At.alloc) | (with_reducible apply At.drew) | (with_reducible apply At.drewN) | exact (rfl : Array.setIfInBounds _ _ _ = _) | (refine Ne.symm ?_; simp; done) | (show _ ≠ _; simp; done) | (show _ ≠ _; simp; omega) | (show _ ≠ _; omega))); (first | done | fail)) hcuri
            (refine wpAnyH_take (i := 0) (oi := _) (v := ?_) (by simp only [List.getElem?_toArray, List.getElem?_cons_succ, List.getElem?_cons_zero]; rfl) (by kernel_rfl) (by kernel_rfl) (by kernel_rfl) (by intro _ _ _ h; exact h) (Or.inl ⟨by rfl, ?_⟩) (by assumption) ?_; rotate_left; (focus (((intro w hSw; (try dsimp only at hSw); go_simp); (try with_reducible rfl)); done)); (try simp only [Act.put, List.setIfInBounds_toArray, List.set_cons_zero, List.set_cons_succ]))
            (refine wpAnyH_take (i := 1) (oi := _) (v := ?_) (by simp only [List.getElem?_toArray, List.getElem?_cons_succ, List.getElem?_cons_zero]; rfl) (by kernel_rfl) (by kernel_rfl) (by kernel_rfl) (by intro _ _ _ h; exact h) (Or.inl ⟨by rfl, ?_⟩) (by assumption) ?_; rotate_left; (focus (((intro w hSw; (try dsimp only at hSw); go_simp); (try with_reducible rfl)); done)); (try simp only [Act.put, List.setIfInBounds_toArray, List.set_cons_zero, List.set_cons_succ]))
            (refine wpAnyH_take (i := 2) (oi := _) (v := ?_) (by simp only [List.getElem?_toArray, List.getElem?_cons_succ, List.getElem?_cons_zero]; rfl) (by kernel_rfl) (by kernel_rfl) (by kernel_rfl) (by intro _ _ _ h; exact h) (Or.inl ⟨by rfl, ?_⟩) (by assumption) ?_; rotate_left; (focus (((intro w hSw; (try dsimp only at hSw); go_simp); (try with_reducible rfl)); done)); (try simp only [Act.put, List.setIfInBounds_toArray, List.set_cons_zero, List.set_cons_succ]))
            (refine wpAnyH_take (i := 3) (oi := _) (v := ?_) (by simp only [List.getElem?_toArray, List.getElem?_cons_succ, List.getElem?_cons_zero]; rfl) (by kernel_rfl) (by kernel_rfl) (by kernel_rfl) (by intro _ _ _ h; exact h) (Or.inl ⟨by rfl, ?_⟩) (by assumption) ?_; rotate_left; (focus (((intro w hSw; (try dsimp only at hSw); go_simp); (try with_reducible rfl)); done)); (try simp only [Act.put, List.setIfInBounds_toArray, List.set_cons_zero, List.set_cons_succ]))
            (refine wpAnyH_take (i := 4) (oi := _) (v := ?_) (by simp only [List.getElem?_toArray, List.getElem?_cons_succ, List.getElem?_cons_zero]; rfl) (by kernel_rfl) (by kernel_rfl) (by kernel_rfl) (by intro _ _ _ h; exact h) (Or.inl ⟨by rfl, ?_⟩) (by assumption) ?_; rotate_left; (focus (((intro w hSw; (try dsimp only at hSw); go_simp); (try with_reducible rfl)); done)); (try simp only [Act.put, List.setIfInBounds_toArray, List.set_cons_zero, List.set_cons_succ]))
            (refine wpAnyH_take (i := 5) (oi := _) (v := ?_) (by simp only [List.getElem?_toArray, List.getElem?_cons_succ, List.getElem?_cons_zero]; rfl) (by kernel_rfl) (by kernel_rfl) (by kernel_rfl) (by intro _ _ _ h; exact h) (Or.inl ⟨by rfl, ?_⟩) (by assumption) ?_; rotate_left; (focus (((intro w hSw; (try dsimp only at hSw); go_simp); (try with_reducible rfl)); done)); (try simp only [Act.put, List.setIfInBounds_toArray, List.set_cons_zero, List.set_cons_succ]))
            (refine wpAnyH_take (i := 6) (oi := _) (v := ?_) (by simp only [List.getElem?_toArray, List.getElem?_cons_succ, List.getElem?_cons_zero]; rfl) (by kernel_rfl) (by kernel_rfl) (by kernel_rfl) (by intro _ _ _ h; exact h) (Or.inl ⟨by rfl, ?_⟩) (by assumption) ?_; rotate_left; (focus (((intro w hSw; (try dsimp only at hSw); go_simp); (try with_reducible rfl)); done)); (try simp only [Act.put, List.setIfInBounds_toArray, List.set_cons_zero, List.set_cons_succ]))
            (refine wpAnyH_take (i := 7) (oi := _) (v := ?_) (by simp only [List.getElem?_toArray, List.getElem?_cons_succ, List.getElem?_cons_zero]; rfl) (by kernel_rfl) (by kernel_rfl) (by kernel_rfl) (by intro _ _ _ h; exact h) (Or.inl ⟨by rfl, ?_⟩) (by assumption) ?_; rotate_left; (focus (((intro w hSw; (try dsimp only at hSw); go_simp); (try with_reducible rfl)); done)); (try simp only [Act.put, List.setIfInBounds_toArray, List.set_cons_zero, List.set_cons_succ]))
            (refine wpAnyH_take (i := 8) (oi := _) (v := ?_) (by simp only [List.getElem?_toArray, List.getElem?_cons_succ, List.getElem?_cons_zero]; rfl) (by kernel_rfl) (by kernel_rfl) (by kernel_rfl) (by intro _ _ _ h; exact h) (Or.inl ⟨by rfl, ?_⟩) (by assumption) ?_; rotate_left; (focus (((intro w hSw; (try dsimp only at hSw); go_simp); (try with_reducible rfl)); done)); (try simp only [Act.put, List.setIfInBounds_toArray, List.set_cons_zero, List.set_cons_succ]))
            (refine wpAnyH_take (i := 9) (oi := _) (v := ?_) (by simp only [List.getElem?_toArray, List.getElem?_cons_succ, List.getElem?_cons_zero]; rfl) (by kernel_rfl) (by kernel_rfl) (by kernel_rfl) (by intro _ _ _ h; exact h) (Or.inl ⟨by rfl, ?_⟩) (by assumption) ?_; rotate_left; (focus (((intro w hSw; (try dsimp only at hSw); go_simp); (try with_reducible rfl)); done)); (try simp only [Act.put, List.setIfInBounds_toArray, List.set_cons_zero, List.set_cons_succ]))
            (refine wpAnyH_take (i := 10) (oi := _) (v := ?_) (by simp only [List.getElem?_toArray, List.getElem?_cons_succ, List.getElem?_cons_zero]; rfl) (by kernel_rfl) (by kernel_rfl) (by kernel_rfl) (by intro _ _ _ h; exact h) (Or.inl ⟨by rfl, ?_⟩) (by assumption) ?_; rotate_left; (focus (((intro w hSw; (try dsimp only at hSw); go_simp); (try with_reducible rfl)); done)); (try simp only [Act.put, List.setIfInBounds_toArray, List.set_cons_zero, List.set_cons_succ]))
            (refine wpAnyH_take (i := 11) (oi := _) (v := ?_) (by simp only [List.getElem?_toArray, List.getElem?_cons_succ, List.getElem?_cons_zero]; rfl) (by kernel_rfl) (by kernel_rfl) (by kernel_rfl) (by intro _ _ _ h; exact h) (Or.inl ⟨by rfl, ?_⟩) (by assumption) ?_; rotate_left; (focus (((intro w hSw; (try dsimp only at hSw); go_simp); (try with_reducible rfl)); done)); (try simp only [Act.put, List.setIfInBounds_toArray, List.set_cons_zero, List.set_cons_succ]))
            (refine wpAnyH_take (i := 12) (oi := _) (v := ?_) (by simp only [List.getElem?_toArray, List.getElem?_cons_succ, List.getElem?_cons_zero]; rfl) (by kernel_rfl) (by kernel_rfl) (by kernel_rfl) (by intro _ _ _ h; exact h) (Or.inl ⟨by rfl, ?_⟩) (by assumption) ?_; rotate_left; (focus (((intro w hSw; (try dsimp only at hSw); go_simp); (try with_reducible rfl)); done)); (try simp only [Act.put, List.setIfInBounds_toArray, List.set_cons_zero, List.set_cons_succ]))
            (refine wpAnyH_take (i := 13) (oi := _) (v := ?_) (by simp only [List.getElem?_toArray, List.getElem?_cons_succ, List.getElem?_cons_zero]; rfl) (by kernel_rfl) (by kernel_rfl) (by kernel_rfl) (by intro _ _ _ h; exact h) (Or.inl ⟨by rfl, ?_⟩) (by assumption) ?_; rotate_left; (focus (((intro w hSw; (try dsimp only at hSw); go_simp); (try with_reducible rfl)); done)); (try simp only [Act.put, List.setIfInBounds_toArray, List.set_cons_zero, List.set_cons_succ]))
            (refine wpAnyH_take (i := 14) (oi := _) (v := ?_) (by simp only [List.getElem?_toArray, List.getElem?_cons_succ, List.getElem?_cons_zero]; rfl) (by kernel_rfl) (by kernel_rfl) (by kernel_rfl) (by intro _ _ _ h; exact h) (Or.inl ⟨by rfl, ?_⟩) (by assumption) ?_; rotate_left; (focus (((intro w hSw; (try dsimp only at hSw); go_simp); (try with_reducible rfl)); done)); (try simp only [Act.put, List.setIfInBounds_toArray, List.set_cons_zero, List.set_cons_succ]))
            (refine wpAnyH_take (i := 15) (oi := _) (v := ?_) (by simp only [List.getElem?_toArray, List.getElem?_cons_succ, List.getElem?_cons_zero]; rfl) (by kernel_rfl) (by kernel_rfl) (by kernel_rfl) (by intro _ _ _ h; exact h) (Or.inl ⟨by rfl, ?_⟩) (by assumption) ?_; rotate_left; (focus (((intro w hSw; (try dsimp only at hSw); go_simp); (try with_reducible rfl)); done)); (try simp only [Act.put, List.setIfInBounds_toArray, List.set_cons_zero, List.set_cons_succ]))
            (refine wpAnyH_take (i := 17) (oi := _) (v := ?_) (by simp only [List.getElem?_toArray, List.getElem?_cons_succ, List.getElem?_cons_zero]; rfl) (by kernel_rfl) (by kernel_rfl) (by kernel_rfl) (by intro _ _ _ h; exact h) (Or.inl ⟨by rfl, ?_⟩) (by assumption) ?_; rotate_left; (focus (((intro w hSw; (try dsimp only at hSw); go_simp); (try with_reducible rfl)); done)); (try simp only [Act.put, List.setIfInBounds_toArray, List.set_cons_zero, List.set_cons_succ]))
            refine wpAnyH_ready (rs := [16, 18]) (by kernel_rfl) (by simp) ?_
            refine AllReadyH.cons (o := _) (by simp only [List.getElem?_toArray, List.getElem?_cons_succ, List.getElem?_cons_zero]; rfl) (fun K hK => ?_) (AllReadyH.cons (o := _) (by simp only [List.getElem?_toArray, List.getElem?_cons_succ, List.getElem?_cons_zero]; rfl) (fun K hK => ?_) AllReadyH.nil)
            rotate_left
            focus
              go_simp
              (refine hK.out _ _ ?_ (fun hHeld => ?_); (focus (((try dsimp only); exact keep3 (t1 := 36) (t2 := 143) (t3 := 134) (a := I T'.cap) (b := I T'.dep) (c := I (T'.count : Int)) (cur := cur) (by (repeat' (first | (with_reducible assumption) | (with_reducible refine unhid ?_; with_reducible assumption) | (with_reducible refine At.fresh _ _ _ (by first | (simp; done) | (simp; omega) | omega)) | (with_reducible apply At.set') | (with_reducible apply At.far) | (with_reducible apply At.alloc) | (with_reducible apply At.drew) | (with_reducible apply At.drewN) | exact (rfl : Array.setIfInBounds _ _ _ = _) | (refine Ne.symm ?_; simp; done) | (show _ ≠ _; simp; done) | (show _ ≠ _; simp; omega) | (show _ ≠ _; omega))); (first | done | fail)) (by (repeat' (first | (with_reducible assumption) | (with_reducible refine unhid ?_; with_reducible assumption) | (with_reducible refine At.fresh _ _ _ (by first | (simp; done) | (simp; omega) | omega)) | (with_reducible apply At.set') | (with_reducible apply At.far) | (with_reducible apply At.alloc) | (with_reducible apply At.drew) | (with_reducible apply At.drewN) | exact (rfl : Array.setIfInBounds _ _ _ = _) | (refine Ne.symm ?_; simp; done) | (show _ ≠ _; simp; done) | (show _ ≠ _; simp; omega) | (show _ ≠ _; omega))); (first | done | fail)) (by (repeat' (first | (with_reducible assumption) | (with_reducible refine unhid ?_; with_reducible assumption) | (with_reducible refine At.fresh _ _ _ (by first | (simp; done) | (simp; omega) | omega)) | (with_reducible apply At.set') | (with_reducible apply At.far) | (with_reducible apply At.alloc) | (with_reducible apply At.drew) | (with_reducible apply At.drewN) | exact (rfl : Array.setIfInBounds _ _ _ = _) | (refine Ne.symm ?_; simp; done) | (show _ ≠ _; simp; done) | (show _ ≠ _; simp; omega) | (show _ ≠ _; omega))); (first | done | fail)) hcuri); done)); clear hK K; (try simp only [Act.put, List.setIfInBounds_toArray, List.set_cons_zero, List.set_cons_succ]))
              refine wpAnyH_ready (rs := [16]) (by kernel_rfl) (by simp) ?_
              refine AllReadyH.cons (o := _) (by simp only [List.getElem?_toArray, List.getElem?_cons_succ, List.getElem?_cons_zero]; rfl) (fun K hK => ?_) AllReadyH.nil
              go_simp
              (refine hK.out _ _ ?_ (fun hHeld => ?_); (focus (((try dsimp only); exact keep3 (t1 := 36) (t2 := 143) (t3 := 134) (a := I T'.cap) (b := I T'.dep) (c := I (T'.count : Int)) (cur := cur) (by (repeat' (first | (with_reducible assumption) | (with_reducible refine unhid ?_; with_reducible assumption) | (with_reducible refine At.fresh _ _ _ (by first | (simp; done) | (simp; omega) | omega)) | (with_reducible apply At.set') | (with_reducible apply At.far) | (with_reducible apply At.alloc) | (with_reducible apply At.drew) | (with_reducible apply At.drewN) | exact (rfl : Array.setIfInBounds _ _ _ = _) | (refine Ne.symm ?_; simp; done) | (show _ ≠ _; simp; done) | (show _ ≠ _; simp; omega) | (show _ ≠ _; omega))); (first | done | fail)) (by (repeat' (first | (with_reducible assumption) | (with_reducible refine unhid ?_; with_reducible assumption) | (with_reducible refine At.fresh _ _ _ (by first | (simp; done) | (simp; omega) | omega)) | (with_reducible apply At.set') | (with_reducible apply At.far) | (with_reducible apply At.alloc) | (with_reducible apply At.drew) | (with_reducible apply At.drewN) | exact (rfl : Array.setIfInBounds _ _ _ = _) | (refine Ne.symm ?_; simp; done) | (show _ ≠ _; simp; done) | (show _ ≠ _; simp; omega) | (show _ ≠ _; omega))); (first | done | fail)) (by (repeat' (first | (with_reducible assumption) | (with_reducible refine unhid ?_; with_reducible assumption) | (with_reducible refine At.fresh _ _ _ (by first | (simp; done) | (simp; omega) | omega)) | (with_reducible apply At.set') | (with_reducible apply At.far) | (with_reducible apply At.alloc) | (with_reducible apply At.drew) | (with_reducible apply At.drewN) | exact (rfl : Array.setIfInBounds _ _ _ = _) | (refine Ne.symm ?_; simp; done) | (show _ ≠ _; simp; done) | (show _ ≠ _; simp; omega) | (show _ ≠ _; omega))); (first | done | fail)) hcuri); done)); clear hK K; (try simp only [Act.put, List.setIfInBounds_toArray, List.set_cons_zero, List.set_cons_succ]))
              refine wpAnyH_ready (rs := [19]) (by kernel_rfl) (by simp) ?_
              refine AllReadyH.cons (o := _) (by simp only [List.getElem?_toArray, List.getElem?_cons_succ, List.getElem?_cons_zero]; rfl) (fun K hK => ?_) AllReadyH.nil
              (refine step_append_lies _ (by rfl) _ _ _ (by rfl) 0 3 i0 _ 1 8 Try.underlying81 hi0 hz0 hz1 hz2 rfl (by omega) (.slice KA5 kn kc5) kn (kidCells mi.kids) (by rfl) (by first | exact World.ownsRow.alloc HRow.out _ | exact (World.ownsRow.alloc HRow.out _).drew) ⟨w5.heap.size, 0, none⟩ 1 1 [I (kid : Int)] (by rfl) (by rfl) (by exact World.news_of_block (cs := #[I (kid : Int)]) (t := 3) (fr := (0, 0)) (heap_alloc_new w5 _)) (by intro u hu; simp at hu; rw [hu]; rfl) (by omega) (by unfold maxLen; omega) (by omega) (Nat.zero_le _) (w5.heap.size + 1) (by simp) ?_; intro g6 cap6 w6 hown6 hgrow0 hlie hlt6; have hgrow : (w5.alloc (.cells #[I (kid : Int)] 3)).grownBy w6 (Value.slice KA5 kn kc5).ownBlock := ⟨hgrow0.os, hgrow0.tape, hgrow0.output, hgrow0.size, hgrow0.block⟩; clear hgrow0; have kt6 := (kt5h.out.alloc (.cells #[I (kid : Int)] 3)).grown hgrow (fun e => (HN3.out _ e).2.2.2.2 rfl); have ktree6 := (ktreeh.out.alloc (.cells #[I (kid : Int)] 3)).grown hgrow (fun e => (HN3.out _ e).2.2.1 rfl); have kcur6 := (hcurh.out.alloc (.cells #[I (kid : Int)] 3)).grown hgrow (fun e => (HN3.out _ e).2.2.2.1 rfl); have kN6 := (kNh.out.alloc (.cells #[I (kid : Int)] 3)).grown hgrow (fun e => (HN3.out _ e).1 rfl); have kK6 := (kKh.out.alloc (.cells #[I (kid : Int)] 3)).grown hgrow (fun e => (HN3.out _ e).2.1 rfl); have kN6c := kN6.cell; have kN6f := kN6.frozen; have kt6h := Lib.hid kt6; have ktree6h := Lib.hid ktree6; have kcur6h := Lib.hid kcur6; have kN6h := Lib.hid kN6; have kK6h := Lib.hid kK6; have HG6 := Lib.hid (And.intro hown6 (And.intro hgrow hlie)); clear hown6 hgrow hlie kt6 ktree6 kcur6 kN6 kK6)
              (refine hK.out _ _ ?_ (fun hHeld => ?_); (focus (((try dsimp only); exact keep3 (t1 := 36) (t2 := 143) (t3 := 134) (a := I T'.cap) (b := I T'.dep) (c := I (T'.count : Int)) (cur := cur) (by (repeat' (first | (with_reducible assumption) | (with_reducible refine unhid ?_; with_reducible assumption) | (with_reducible refine At.fresh _ _ _ (by first | (simp; done) | (simp; omega) | omega)) | (with_reducible apply At.set') | (with_reducible apply At.far) | (with_reducible apply At.alloc) | (with_reducible apply At.drew) | (with_reducible apply At.drewN) | exact (rfl : Array.setIfInBounds _ _ _ = _) | (refine Ne.symm ?_; simp; done) | (show _ ≠ _; simp; done) | (show _ ≠ _; simp; omega) | (show _ ≠ _; omega))); (first | done | fail)) (by (repeat' (first | (with_reducible assumption) | (with_reducible refine unhid ?_; with_reducible assumption) | (with_reducible refine At.fresh _ _ _ (by first | (simp; done) | (simp; omega) | omega)) | (with_reducible apply At.set') | (with_reducible apply At.far) | (with_reducible apply At.alloc) | (with_reducible apply At.drew) | (with_reducible apply At.drewN) | exact (rfl : Array.setIfInBounds _ _ _ = _) | (refine Ne.symm ?_; simp; done) | (show _ ≠ _; simp; done) | (show _ ≠ _; simp; omega) | (show _ ≠ _; omega))); (first | done | fail)) (by (repeat' (first | (with_reducible assumption) | (with_reducible refine unhid ?_; with_reducible assumption) | (with_reducible refine At.fresh _ _ _ (by first | (simp; done) | (simp; omega) | omega)) | (with_reducible apply At.set') | (with_reducible apply At.far) | (with_reducible apply At.alloc) | (with_reducible apply At.drew) | (with_reducible apply At.drewN) | exact (rfl : Array.setIfInBounds _ _ _ = _) | (refine Ne.symm ?_; simp; done) | (show _ ≠ _; simp; done) | (show _ ≠ _; simp; omega) | (show _ ≠ _; omega))); (first | done | fail)) hcuri); done)); clear hK K; (try simp only [Act.put, List.setIfInBounds_toArray, List.set_cons_zero, List.set_cons_succ]))
              (refine wpAnyH_take (i := 20) (oi := _) (v := ?_) (by simp only [List.getElem?_toArray, List.getElem?_cons_succ, List.getElem?_cons_zero]; rfl) (by kernel_rfl) (by kernel_rfl) (by kernel_rfl) (by intro _ _ _ h; exact h) (Or.inl ⟨by rfl, ?_⟩) (by assumption) ?_; rotate_left; (focus (((intro w hSw; (try dsimp only at hSw); go_simp); (try with_reducible rfl)); done)); (try simp only [Act.put, List.setIfInBounds_toArray, List.set_cons_zero, List.set_cons_succ]))
              (refine wpAnyH_take (i := 21) (oi := _) (v := ?_) (by simp only [List.getElem?_toArray, List.getElem?_cons_succ, List.getElem?_cons_zero]; rfl) (by kernel_rfl) (by kernel_rfl) (by kernel_rfl) (by intro _ _ _ h; exact h) (Or.inl ⟨by rfl, ?_⟩) (by assumption) ?_; rotate_left; (focus (((intro w hSw; (try dsimp only at hSw); go_simp); (try with_reducible rfl)); done)); (try simp only [Act.put, List.setIfInBounds_toArray, List.set_cons_zero, List.set_cons_succ]))
              refine wpAnyH_ready (rs := [22]) (by kernel_rfl) (by simp) ?_
              refine AllReadyH.cons (o := _) (by simp only [List.getElem?_toArray, List.getElem?_cons_succ, List.getElem?_cons_zero]; rfl) (fun K hK => ?_) AllReadyH.nil
              go_simp
              (refine hK.out _ _ ?_ (fun hHeld => ?_); (focus (((try dsimp only); exact keep3 (t1 := 36) (t2 := 143) (t3 := 134) (a := I T'.cap) (b := I T'.dep) (c := I (T'.count : Int)) (cur := cur) (by (repeat' (first | (with_reducible assumption) | (with_reducible refine unhid ?_; with_reducible assumption) | (with_reducible refine At.fresh _ _ _ (by first | (simp; done) | (simp; omega) | omega)) | (with_reducible apply At.set') | (with_reducible apply At.far) | (with_reducible apply At.alloc) | (with_reducible apply At.drew) | (with_reducible apply At.drewN) | exact (rfl : Array.setIfInBounds _ _ _ = _) | (refine Ne.symm ?_; simp; done) | (show _ ≠ _; simp; done) | (show _ ≠ _; simp; omega) | (show _ ≠ _; omega))); (first | done | fail)) (by (repeat' (first | (with_reducible assumption) | (with_reducible refine unhid ?_; with_reducible assumption) | (with_reducible refine At.fresh _ _ _ (by first | (simp; done) | (simp; omega) | omega)) | (with_reducible apply At.set') | (with_reducible apply At.far) | (with_reducible apply At.alloc) | (with_reducible apply At.drew) | (with_reducible apply At.drewN) | exact (rfl : Array.setIfInBounds _ _ _ = _) | (refine Ne.symm ?_; simp; done) | (show _ ≠ _; simp; done) | (show _ ≠ _; simp; omega) | (show _ ≠ _; omega))); (first | done | fail)) (by (repeat' (first | (with_reducible assumption) | (with_reducible refine unhid ?_; with_reducible assumption) | (with_reducible refine At.fresh _ _ _ (by first | (simp; done) | (simp; omega) | omega)) | (with_reducible apply At.set') | (with_reducible apply At.far) | (with_reducible apply At.alloc) | (with_reducible apply At.drew) | (with_reducible apply At.drewN) | exact (rfl : Array.setIfInBounds _ _ _ = _) | (refine Ne.symm ?_; simp; done) | (show _ ≠ _; simp; done) | (show _ ≠ _; simp; omega) | (show _ ≠ _; omega))); (first | done | fail)) hcuri); done)); clear hK K; (try simp only [Act.put, List.setIfInBounds_toArray, List.set_cons_zero, List.set_cons_succ]))
              refine wpAnyH_done (by kernel_rfl) ?_ _
            rotate_left
            focus
              go_simp
              (refine hK.out _ _ ?_ (fun hHeld => ?_); (focus (((try dsimp only); exact keep3 (t1 := 36) (t2 := 143) (t3 := 134) (a := I T'.cap) (b := I T'.dep) (c := I (T'.count : Int)) (cur := cur) (by (repeat' (first | (with_reducible assumption) | (with_reducible refine unhid ?_; with_reducible assumption) | (with_reducible refine At.fresh _ _ _ (by first | (simp; done) | (simp; omega) | omega)) | (with_reducible apply At.set') | (with_reducible apply At.far) | (with_reducible apply At.alloc) | (with_reducible apply At.drew) | (with_reducible apply At.drewN) | exact (rfl : Array.setIfInBounds _ _ _ = _) | (refine Ne.symm ?_; simp; done) | (show _ ≠ _; simp; done) | (show _ ≠ _; simp; omega) | (show _ ≠ _; omega))); (first | done | fail)) (by (repeat' (first | (with_reducible assumption) | (with_reducible refine unhid ?_; with_reducible assumption) | (with_reducible refine At.fresh _ _ _ (by first | (simp; done) | (simp; omega) | omega)) | (with_reducible apply At.set') | (with_reducible apply At.far) | (with_reducible apply At.alloc) | (with_reducible apply At.drew) | (with_reducible apply At.drewN) | exact (rfl : Array.setIfInBounds _ _ _ = _) | (refine Ne.symm ?_; simp; done) | (show _ ≠ _; simp; done) | (show _ ≠ _; simp; omega) | (show _ ≠ _; omega))); (first | done | fail)) (by (repeat' (first | (with_reducible assumption) | (with_reducible refine unhid ?_; with_reducible assumption) | (with_reducible refine At.fresh _ _ _ (by first | (simp; done) | (simp; omega) | omega)) | (with_reducible apply At.set') | (with_reducible apply At.far) | (with_reducible apply At.alloc) | (with_reducible apply At.drew) | (with_reducible apply At.drewN) | exact (rfl : Array.setIfInBounds _ _ _ = _) | (refine Ne.symm ?_; simp; done) | (show _ ≠ _; simp; done) | (show _ ≠ _; simp; omega) | (show _ ≠ _; omega))); (first | done | fail)) hcuri); done)); clear hK K; (try simp only [Act.put, List.setIfInBounds_toArray, List.set_cons_zero, List.set_cons_succ]))
              refine wpAnyH_ready (rs := [18]) (by kernel_rfl) (by simp) ?_
              refine AllReadyH.cons (o := _) (by simp only [List.getElem?_toArray, List.getElem?_cons_succ, List.getElem?_cons_zero]; rfl) (fun K hK => ?_) AllReadyH.nil
              go_simp
              (refine hK.out _ _ ?_ (fun hHeld => ?_); (focus (((try dsimp only); exact keep3 (t1 := 36) (t2 := 143) (t3 := 134) (a := I T'.cap) (b := I T'.dep) (c := I (T'.count : Int)) (cur := cur) (by (repeat' (first | (with_reducible assumption) | (with_reducible refine unhid ?_; with_reducible assumption) | (with_reducible refine At.fresh _ _ _ (by first | (simp; done) | (simp; omega) | omega)) | (with_reducible apply At.set') | (with_reducible apply At.far) | (with_reducible apply At.alloc) | (with_reducible apply At.drew) | (with_reducible apply At.drewN) | exact (rfl : Array.setIfInBounds _ _ _ = _) | (refine Ne.symm ?_; simp; done) | (show _ ≠ _; simp; done) | (show _ ≠ _; simp; omega) | (show _ ≠ _; omega))); (first | done | fail)) (by (repeat' (first | (with_reducible assumption) | (with_reducible refine unhid ?_; with_reducible assumption) | (with_reducible refine At.fresh _ _ _ (by first | (simp; done) | (simp; omega) | omega)) | (with_reducible apply At.set') | (with_reducible apply At.far) | (with_reducible apply At.alloc) | (with_reducible apply At.drew) | (with_reducible apply At.drewN) | exact (rfl : Array.setIfInBounds _ _ _ = _) | (refine Ne.symm ?_; simp; done) | (show _ ≠ _; simp; done) | (show _ ≠ _; simp; omega) | (show _ ≠ _; omega))); (first | done | fail)) (by (repeat' (first | (with_reducible assumption) | (with_reducible refine unhid ?_; with_reducible assumption) | (with_reducible refine At.fresh _ _ _ (by first | (simp; done) | (simp; omega) | omega)) | (with_reducible apply At.set') | (with_reducible apply At.far) | (with_reducible apply At.alloc) | (with_reducible apply At.drew) | (with_reducible apply At.drewN) | exact (rfl : Array.setIfInBounds _ _ _ = _) | (refine Ne.symm ?_; simp; done) | (show _ ≠ _; simp; done) | (show _ ≠ _; simp; omega) | (show _ ≠ _; omega))); (first | done | fail)) hcuri); done)); clear hK K; (try simp only [Act.put, List.setIfInBounds_toArray, List.set_cons_zero, List.set_cons_succ]))
              refine wpAnyH_ready (rs := [19]) (by kernel_rfl) (by simp) ?_
              refine AllReadyH.cons (o := _) (by simp only [List.getElem?_toArray, List.getElem?_cons_succ, List.getElem?_cons_zero]; rfl) (fun K hK => ?_) AllReadyH.nil
              (refine step_append_lies _ (by rfl) _ _ _ (by rfl) 0 3 i0 _ 1 8 Try.underlying81 hi0 hz0 hz1 hz2 rfl (by omega) (.slice KA5 kn kc5) kn (kidCells mi.kids) (by rfl) (by first | exact World.ownsRow.alloc HRow.out _ | exact (World.ownsRow.alloc HRow.out _).drew) ⟨w5.heap.size, 0, none⟩ 1 1 [I (kid : Int)] (by rfl) (by rfl) (by exact World.news_of_block (cs := #[I (kid : Int)]) (t := 3) (fr := (0, 0)) (heap_alloc_new w5 _)) (by intro u hu; simp at hu; rw [hu]; rfl) (by omega) (by unfold maxLen; omega) (by omega) (Nat.zero_le _) (w5.heap.size + 1) (by simp) ?_; intro g6 cap6 w6 hown6 hgrow0 hlie hlt6; have hgrow : (w5.alloc (.cells #[I (kid : Int)] 3)).grownBy w6 (Value.slice KA5 kn kc5).ownBlock := ⟨hgrow0.os, hgrow0.tape, hgrow0.output, hgrow0.size, hgrow0.block⟩; clear hgrow0; have kt6 := (kt5h.out.alloc (.cells #[I (kid : Int)] 3)).grown hgrow (fun e => (HN3.out _ e).2.2.2.2 rfl); have ktree6 := (ktreeh.out.alloc (.cells #[I (kid : Int)] 3)).grown hgrow (fun e => (HN3.out _ e).2.2.1 rfl); have kcur6 := (hcurh.out.alloc (.cells #[I (kid : Int)] 3)).grown hgrow (fun e => (HN3.out _ e).2.2.2.1 rfl); have kN6 := (kNh.out.alloc (.cells #[I (kid : Int)] 3)).grown hgrow (fun e => (HN3.out _ e).1 rfl); have kK6 := (kKh.out.alloc (.cells #[I (kid : Int)] 3)).grown hgrow (fun e => (HN3.out _ e).2.1 rfl); have kN6c := kN6.cell; have kN6f := kN6.frozen; have kt6h := Lib.hid kt6; have ktree6h := Lib.hid ktree6; have kcur6h := Lib.hid kcur6; have kN6h := Lib.hid kN6; have kK6h := Lib.hid kK6; have HG6 := Lib.hid (And.intro hown6 (And.intro hgrow hlie)); clear hown6 hgrow hlie kt6 ktree6 kcur6 kN6 kK6)
              (refine hK.out _ _ ?_ (fun hHeld => ?_); (focus (((try dsimp only); exact keep3 (t1 := 36) (t2 := 143) (t3 := 134) (a := I T'.cap) (b := I T'.dep) (c := I (T'.count : Int)) (cur := cur) (by (repeat' (first | (with_reducible assumption) | (with_reducible refine unhid ?_; with_reducible assumption) | (with_reducible refine At.fresh _ _ _ (by first | (simp; done) | (simp; omega) | omega)) | (with_reducible apply At.set') | (with_reducible apply At.far) | (with_reducible apply At.alloc) | (with_reducible apply At.drew) | (with_reducible apply At.drewN) | exact (rfl : Array.setIfInBounds _ _ _ = _) | (refine Ne.symm ?_; simp; done) | (show _ ≠ _; simp; done) | (show _ ≠ _; simp; omega) | (show _ ≠ _; omega))); (first | done | fail)) (by (repeat' (first | (with_reducible assumption) | (with_reducible refine unhid ?_; with_reducible assumption) | (with_reducible refine At.fresh _ _ _ (by first | (simp; done) | (simp; omega) | omega)) | (with_reducible apply At.set') | (with_reducible apply At.far) | (with_reducible apply At.alloc) | (with_reducible apply At.drew) | (with_reducible apply At.drewN) | exact (rfl : Array.setIfInBounds _ _ _ = _) | (refine Ne.symm ?_; simp; done) | (show _ ≠ _; simp; done) | (show _ ≠ _; simp; omega) | (show _ ≠ _; omega))); (first | done | fail)) (by (repeat' (first | (with_reducible assumption) | (with_reducible refine unhid ?_; with_reducible assumption) | (with_reducible refine At.fresh _ _ _ (by first | (simp; done) | (simp; omega) | omega)) | (with_reducible apply At.set') | (with_reducible apply At.far) | (with_reducible apply At.alloc) | (with_reducible apply At.drew) | (with_reducible apply At.drewN) | exact (rfl : Array.setIfInBounds _ _ _ = _) | (refine Ne.symm ?_; simp; done) | (show _ ≠ _; simp; done) | (show _ ≠ _; simp; omega) | (show _ ≠ _; omega))); (first | done | fail)) hcuri); done)); clear hK K; (try simp only [Act.put, List.setIfInBounds_toArray, List.set_cons_zero, List.set_cons_succ]))
              (refine wpAnyH_take (i := 20) (oi := _) (v := ?_) (by simp only [List.getElem?_toArray, List.getElem?_cons_succ, List.getElem?_cons_zero]; rfl) (by kernel_rfl) (by kernel_rfl) (by kernel_rfl) (by intro _ _ _ h; exact h) (Or.inl ⟨by rfl, ?_⟩) (by assumption) ?_; rotate_left; (focus (((intro w hSw; (try dsimp only at hSw); go_simp); (try with_reducible rfl)); done)); (try simp only [Act.put, List.setIfInBounds_toArray, List.set_cons_zero, List.set_cons_succ]))
              (refine wpAnyH_take (i := 21) (oi := _) (v := ?_) (by simp only [List.getElem?_toArray, List.getElem?_cons_succ, List.getElem?_cons_zero]; rfl) (by kernel_rfl) (by kernel_rfl) (by kernel_rfl) (by intro _ _ _ h; exact h) (Or.inl ⟨by rfl, ?_⟩) (by assumption) ?_; rotate_left; (focus (((intro w hSw; (try dsimp only at hSw); go_simp); (try with_reducible rfl)); done)); (try simp only [Act.put, List.setIfInBounds_toArray, List.set_cons_zero, List.set_cons_succ]))
              refine wpAnyH_ready (rs := [22]) (by kernel_rfl) (by simp) ?_
              refine AllReadyH.cons (o := _) (by simp only [List.getElem?_toArray, List.getElem?_cons_succ, List.getElem?_cons_zero]; rfl) (fun K hK => ?_) AllReadyH.nil
              go_simp
              (refine hK.out _ _ ?_ (fun hHeld => ?_); (focus (((try dsimp only); exact keep3 (t1 := 36) (t2 := 143) (t3 := 134) (a := I T'.cap) (b := I T'.dep) (c := I (T'.count : Int)) (cur := cur) (by (repeat' (first | (with_reducible assumption) | (with_reducible refine unhid ?_; with_reducible assumption) | (with_reducible refine At.fresh _ _ _ (by first | (simp; done) | (simp; omega) | omega)) | (with_reducible apply At.set') | (with_reducible apply At.far) | (with_reducible apply At.alloc) | (with_reducible apply At.drew) | (with_reducible apply At.drewN) | exact (rfl : Array.setIfInBounds _ _ _ = _) | (refine Ne.symm ?_; simp; done) | (show _ ≠ _; simp; done) | (show _ ≠ _; simp; omega) | (show _ ≠ _; omega))); (first | done | fail)) (by (repeat' (first | (with_reducible assumption) | (with_reducible refine unhid ?_; with_reducible assumption) | (with_reducible refine At.fresh _ _ _ (by first | (simp; done) | (simp; omega) | omega)) | (with_reducible apply At.set') | (with_reducible apply At.far) | (with_reducible apply At.alloc) | (with_reducible apply At.drew) | (with_reducible apply At.drewN) | exact (rfl : Array.setIfInBounds _ _ _ = _) | (refine Ne.symm ?_; simp; done) | (show _ ≠ _; simp; done) | (show _ ≠ _; simp; omega) | (show _ ≠ _; omega))); (first | done | fail)) (by (repeat' (first | (with_reducible assumption) | (with_reducible refine unhid ?_; with_reducible assumption) | (with_reducible refine At.fresh _ _ _ (by first | (simp; done) | (simp; omega) | omega)) | (with_reducible apply At.set') | (with_reducible apply At.far) | (with_reducible apply At.alloc) | (with_reducible apply At.drew) | (with_reducible apply At.drewN) | exact (rfl : Array.setIfInBounds _ _ _ = _) | (refine Ne.symm ?_; simp; done) | (show _ ≠ _; simp; done) | (show _ ≠ _; simp; omega) | (show _ ≠ _; omega))); (first | done | fail)) hcuri); done)); clear hK K; (try simp only [Act.put, List.setIfInBounds_toArray, List.set_cons_zero, List.set_cons_succ]))
              refine wpAnyH_done (by kernel_rfl) ?_ _
            all_goals
              have kt6c := kt6h.out.cell
              have ktree6c := ktree6h.out.cell
              have kK6c := kK6h.out.cell
              have kK6f := kK6h.out.frozen
              have kK6l := kK6h.out.lt
              have hrow6 : w6.cell? ⟨g5, kid, none⟩ = some (.pointer (some ⟨gk.b, 0, none⟩)) := (kcur6h.out.cell kid).trans hcurk
              go_wp2_with fail
              refine ⟨⟨j + 1, by omega, by go_num, ?_⟩, by simp [intOf]; omega⟩
              have hks : (mi.kids ++ [kid]).length = kn + 1 := by rw [List.length_append, ← HKN.out]; rfl
              have hkc6 : kidCells (mi.kids ++ [kid]) = kidCells mi.kids ++ [I (kid : Int)] := by simp [kidCells]
              have hrow7 : Row w6 3 1 (.slice (some ⟨g6, 0, none⟩) (kn + 1) cap6) (mi.kids ++ [kid]).length (kidCells (mi.kids ++ [kid])) := by rw [hks, hkc6]; exact HG6.out.1
              have hgr := HG6.out.2.1
              have hb6 : Below w5.heap.size w5 (w5.alloc (.cells #[I (kid : Int)] 3)) := (Below.refl _ _).alloc (Nat.le_refl _) _
              have hM := Mut.linked (S := fun b => b ∈ repBlocks tb (.slice (some ⟨g5, 0, none⟩) N5 cap5) G5) (u := some sl) HR5.out.1 (fun b hb => hb) HLK.out.2.1 HR5.out.2.2.2.2.1 HR5.out.2.2.2.1 HLK.out.2.2.1 HR5.out.2.2.2.2.2.2.1 HR5.out.2.2.2.2.2.1 HLK.out.2.2.2.1 hb6 hrow7 (w2 := w6)
                ⟨hgr.os, hgr.tape, hgr.output, hgr.size, fun b hb1 hn => hgr.block b hb1 (fun e => hn (by rw [HR5.out.2.2.2.2.2.2.2]; exact e.symm))⟩
                (fun b hb1 => by
                  have e : b = g6 := by simpa [Value.ownBlock] using hb1.symm
                  subst e
                  rw [HR5.out.2.2.2.2.2.2.2]
                  rcases HG6.out.2.2 with h1 | h1
                  · exact .inl h1
                  · right; rw [h1]; simp) (w' := (w6.setCell ⟨gi.b, 3, none⟩ (.slice (some ⟨g6, 0, none⟩) (kn + 1) cap6)).setCell ⟨gk.b, 4, none⟩ (I (DT.upI (some sl)))) rfl
              rw [HLK.out.1]
              exact Mut.seq HR5.out.2.2.1 HR5.out.2.1 (Below.refl _ _) hM
          · have hjm : j = km := by omega
            subst hjm
            go_wp2_with fail
            go_ret
            have e1 : ks.take j = ks := List.take_of_length_le (by have := HL.out.1; omega)
            have h1 := hst.out
            rw [e1] at h1
            exact ⟨rfl, h1⟩
end
end Go.Proofs.Ytnnjlpkjpbbklaa

-- DomGraft2: Graft of package dom. Conditions: the tree lies in memory and is sound; the plain tree is not very large.
namespace Go.Proofs.Ytnnjlpkjpbbklaa
open Go.RowKit

section
variable {w : World} {tb : Nat} {T : DT} {nv : Value} {G : List (Option NG)}

set_option maxRecDepth 100000 in
set_option maxHeartbeats 4000000 in
theorem graft_any (h : Rep w tb T nv G) {S : Nat → Prop} (hS : ∀ b ∈ repBlocks tb nv G, S b) (hW : T.WF) (parent pos : Int) {V : VN} {R : Nat → Prop} (hP : PV w R V) (hR : ∀ b, R b → b < w.heap.size ∧ b ∉ repBlocks tb nv G) (hs : V.node.small) (hz : V.node.size ≤ 100000) :
    Calls Try.prog 46 #[.pointer (some ⟨tb, 0, none⟩), I parent, I pos, V.agg] w fun e w' => e = .returned (.tuple #[I (T.graft anew parent pos V.node).1.1, I (T.graft anew parent pos V.node).1.2]) ∧ Mut tb (T.graft anew parent pos V.node).2 S w w' := by
  have hl := hW.nodes_le
  have HM0 := Lib.hid (fun (W : World) (hW : Below w.heap.size w W) => Mut.of_below h hS hW)
  obtain ⟨pp, hpp, HGP⟩ := get_ptr h hl parent
  have HGP := Lib.hid HGP
  have hdep1 := hW.dep1
  have hdep2 := hW.dep2
  have hcap1 := hW.cap1
  have hcap2 := hW.cap2
  have hhi := PNode.high_size V.node
  have HMe := Lib.hid (fun (W : World) (hb : Below w.heap.size w W) => measure_any (hP.keepB hb fun b hb1 => (hR b hb1).1) (fun b hb1 => Nat.lt_of_lt_of_le (hR b hb1).1 hb.size) hs hz)
  have HRo := Lib.hid (fun (W : World) (hb : Below w.heap.size w W) => room1_any (h.keep hb) (V.node.size : Int) (by omega) hl)
  have HD := Lib.hid (fun (W : World) (hb : Below w.heap.size w W) => depth_any (h.keep hb) hW parent)
  have hspec := hW.graft_spec (f := anew) parent pos V.node
  have herr := PNode.err_zero V.node
  have hblk := h.lt
  have hput : Hid (∀ (W : World) (tc pc : Nat), Below w.heap.size w W → At W tc 36 #[.pointer (some ⟨tb, 0, none⟩)] → At W pc 62 #[.func (.func 125) #[] #[.pointer (some ⟨tc, 0, none⟩), .pointer (some ⟨pc, 0, none⟩)]] → w.heap.size ≤ tc → w.heap.size ≤ pc → V.node.ok anew → (T.count : Int) + V.node.size ≤ T.cap → (V.node.high : Int) ≤ T.dep →
      Calls Try.prog 125 #[V.agg, .pointer (some ⟨tc, 0, none⟩), .pointer (some ⟨pc, 0, none⟩)] W fun e w' => e = .returned (I ((DT.graftP anew V.node T).1 : Nat)) ∧ Mut tb (DT.graftP anew V.node T).2 (fun b => b ∈ repBlocks tb nv G) W w') := by
    intro W tc pc hb htc hpc h1 h2 hok hc hh
    have hzW := hb.size
    exact put_at V R W T nv G (h.keep hb) hW (hP.keepB hb fun b hb1 => (hR b hb1).1) (fun b hb1 => ⟨by have := (hR b hb1).1; omega, (hR b hb1).2⟩) hs hok hc hh htc hpc (fun hx => by have := hblk _ hx; omega) (fun hx => by have := hblk _ hx; omega)
  have hIns : Hid (∀ (W w5 : World) (T' : DT) (kid : Nat), T'.WF → Below w.heap.size w W → Mut tb T' (fun b => b ∈ repBlocks tb nv G) W w5 → Calls Try.prog 36 #[.pointer (some ⟨tb, 0, none⟩), I parent, I pos, I (kid : Int)] w5 fun e w' => e = .returned (I (T'.insert parent pos kid).1) ∧ Mut tb (T'.insert parent pos kid).2 S w w') := by
    intro W w5 T' kid hW' hb hM
    obtain ⟨⟨nv5, G5, hr5, hs5⟩, ho5⟩ := hM
    have hzW := hb.size
    refine (insertNode_any hr5 (S := fun b => b ∈ repBlocks tb nv5 G5) (fun b hb1 => hb1) hW' parent pos kid).mono ?_
    rintro e w' ⟨he, hm⟩
    refine ⟨he, Mut.seq (S := S) (w := w) (w1 := w5) ?_ ?_ (Below.refl _ _) hm⟩
    · exact (Only.of_below (S := S) hb).trans ho5 fun i _ hi => hS i hi
    · intro b hb1
      rcases hs5 b hb1 with h1 | h1
      · exact .inl (hS b h1)
      · right; omega
  obtain ⟨t, al, x, av, kv, ks⟩ := V
  obtain ⟨a5, n5, c5, a6, n6, c6, rfl, rfl⟩ := VN.forms hP
  generalize hN : (VN.mk t al x (.slice a5 n5 c5) (.slice a6 n6 c6) ks).node = nd at *
  dsimp only [VN.agg] at HMe hput ⊢
  have HH := Lib.hid (And.intro h (And.intro hS (And.intro hW (And.intro hN hspec))))
  unfold DT.graft
  generalize hsz : nd.size = sz at *
  generalize hhg : nd.high = hg at *
  generalize her : nd.err anew 0 = er at *
  have HQ := Lib.hid (And.intro hsz (And.intro hhg her))
  have hg2 : hg ≤ 100000 := by omega
  cases hp : T.get parent with
  | none =>
    have e : pp = none := by rw [h.ptr_none hp] at hpp; cases hpp; rfl
    subst e
    clear hpp hp h hS hW hspec hN hP hR hs hz hhi herr hsz hhg her hblk
    go_enter Try.func46, Try.ntmps46
    go_wp2_with ((with_reducible refine (HGP.out _ (by repeat (first | exact Below.refl _ _ | assumption | (refine Below.setCell ?_ (by first | (simp; done) | (simp; omega) | omega) _) | (refine Below.alloc ?_ (by first | (simp; done) | (simp; omega) | omega) _) | (refine Below.drew ?_) | (refine Below.drewN' ?_ _)))).mono ?_); rintro e w' ⟨rfl, rfl⟩)
    go_ret2
    exact ⟨rfl, HM0.out _ (by repeat (first | exact Below.refl _ _ | assumption | (refine Below.setCell ?_ (by first | (simp; done) | (simp; omega) | omega) _) | (refine Below.alloc ?_ (by first | (simp; done) | (simp; omega) | omega) _) | (refine Below.drew ?_) | (refine Below.drewN' ?_ _)))⟩
  | some p =>
    dsimp only
    obtain ⟨g, hpg, hrp, hg1⟩ := h.ptr_some hp
    rw [hpp] at hpg
    cases hpg
    have hcp := hrp.1.cell
    have hgl := hrp.1.lt
    have hkl := kids_len hW (DT.get_some hp).2.1
    have hdd : T.depth parent = (T.depthF DT.fuel parent.toNat : Int) := DT.depth_has hp
    have hdl := hW.depth_le (DT.get_some hp).2.1
    have htc := h.tree.cell
    have htl := h.tree.lt
    have hcnt : T.count ≤ 2000 := Nat.le_trans List.countP_le_length hl
    obtain ⟨A, cap, hv, _, _, _⟩ := hrp.2.2.form
    rw [hv] at hcp
    rw [hdd] at HD ⊢
    generalize hDD : T.depthF DT.fuel parent.toNat = dd at *
    generalize hM : p.kids.length = m at *
    generalize hT : p.tag = tg at *
    have HZ := Lib.hid (And.intro hDD (And.intro hM (And.intro hT (And.intro hp hdd))))
    have hml : ((m : Nat) : Int) ≤ 2000 := by omega
    clear h hS hW hspec hN hP hR hs hz hhi hsz hhg her hpp hp hrp hg1 hv hdd hDD hM hT hkl hblk
    by_cases ht : tg = 0
    · have hd : (tg == 0) = true := by simp [ht]
      rw [if_pos ht]
      clear ht
      go_enter Try.func46, Try.ntmps46
      go_wp2_with ((with_reducible refine (HGP.out _ (by repeat (first | exact Below.refl _ _ | assumption | (refine Below.setCell ?_ (by first | (simp; done) | (simp; omega) | omega) _) | (refine Below.alloc ?_ (by first | (simp; done) | (simp; omega) | omega) _) | (refine Below.drew ?_) | (refine Below.drewN' ?_ _)))).mono ?_); rintro e w' ⟨rfl, rfl⟩)
      go_ret2
      exact ⟨rfl, HM0.out _ (by repeat (first | exact Below.refl _ _ | assumption | (refine Below.setCell ?_ (by first | (simp; done) | (simp; omega) | omega) _) | (refine Below.alloc ?_ (by first | (simp; done) | (simp; omega) | omega) _) | (refine Below.drew ?_) | (refine Below.drewN' ?_ _)))⟩
    have hd : (tg == 0) = false := by simp [ht]
    rw [if_neg ht]
    have HTg := Lib.hid ht
    clear ht
    by_cases hbad : pos < 0 ∨ (m : Int) < pos
    · rw [if_pos hbad]
      have hc : decide (pos < 0) = true ∨ (decide (pos < 0) = false ∧ decide ((m : Int) < pos) = true) := by
        simp only [decide_eq_true_eq, decide_eq_false_iff_not]
        omega
      clear hbad
      rcases hc with c1 | ⟨c1, c2⟩
      all_goals
        go_enter Try.func46, Try.ntmps46
        go_wp2_with ((with_reducible refine (HGP.out _ (by repeat (first | exact Below.refl _ _ | assumption | (refine Below.setCell ?_ (by first | (simp; done) | (simp; omega) | omega) _) | (refine Below.alloc ?_ (by first | (simp; done) | (simp; omega) | omega) _) | (refine Below.drew ?_) | (refine Below.drewN' ?_ _)))).mono ?_); rintro e w' ⟨rfl, rfl⟩)
        go_ret2
        exact ⟨rfl, HM0.out _ (by repeat (first | exact Below.refl _ _ | assumption | (refine Below.setCell ?_ (by first | (simp; done) | (simp; omega) | omega) _) | (refine Below.alloc ?_ (by first | (simp; done) | (simp; omega) | omega) _) | (refine Below.drew ?_) | (refine Below.drewN' ?_ _)))⟩
    rw [if_neg hbad]
    have c1 : decide (pos < 0) = false := by simp; omega
    have c2 : decide ((m : Int) < pos) = false := by simp; omega
    have HPo := Lib.hid hbad
    clear hbad
    by_cases he : er = 0
    · have c3 : (er == 0) = true := by simp [he]
      have c3' : (er != 0) = false := by simp [he]
      rw [if_neg (by simp [he])]
      have HE := Lib.hid he
      clear he herr
      by_cases hdp : T.dep < (dd : Int) + 1 + hg
      · rw [if_pos hdp]
        have c4 : decide (T.dep < (dd : Int) + 1 + hg) = true := by simp [hdp]
        clear hdp
        go_enter Try.func46, Try.ntmps46
        go_wp2_with (first | ((with_reducible refine (HGP.out _ (by repeat (first | exact Below.refl _ _ | assumption | (refine Below.setCell ?_ (by first | (simp; done) | (simp; omega) | omega) _) | (refine Below.alloc ?_ (by first | (simp; done) | (simp; omega) | omega) _) | (refine Below.drew ?_) | (refine Below.drewN' ?_ _)))).mono ?_); rintro e w' ⟨rfl, rfl⟩) | ((with_reducible refine (HMe.out _ (by repeat (first | exact Below.refl _ _ | assumption | (refine Below.setCell ?_ (by first | (simp; done) | (simp; omega) | omega) _) | (refine Below.alloc ?_ (by first | (simp; done) | (simp; omega) | omega) _) | (refine Below.drew ?_) | (refine Below.drewN' ?_ _)))).mono ?_); rintro e w1 ⟨rfl, hb⟩; have hz_w1 := hb.size; (try simp only [World.size_alloc, World.size_setCell, World.size_drew, size_drewN'] at hz_w1); have k0_w1 : At w1 (w.heap.size) 36 #[.pointer (some ⟨tb, 0, none⟩)] := At.keep (by (repeat' (first | (with_reducible assumption) | (with_reducible refine unhid ?_; with_reducible assumption) | (with_reducible refine At.fresh _ _ _ (by first | (simp; done) | (simp; omega) | omega)) | (with_reducible apply At.set') | (with_reducible apply At.far) | (with_reducible apply At.alloc) | (with_reducible apply At.drew) | (with_reducible apply At.drewN) | exact (rfl : Array.setIfInBounds _ _ _ = _) | (refine Ne.symm ?_; simp; done) | (show _ ≠ _; simp; done) | (show _ ≠ _; simp; omega) | (show _ ≠ _; omega))); (first | done | fail)) hb; have k0_w1c := At.cell k0_w1; have k0_w1f := At.frozen k0_w1; have k0_w1h := Lib.hid k0_w1; clear k0_w1; have k1_w1 : At w1 (w.heap.size + 1) 41 #[I t, .slice a5 n5 c5, .string x, .slice a6 n6 c6] := At.keep (by (repeat' (first | (with_reducible assumption) | (with_reducible refine unhid ?_; with_reducible assumption) | (with_reducible refine At.fresh _ _ _ (by first | (simp; done) | (simp; omega) | omega)) | (with_reducible apply At.set') | (with_reducible apply At.far) | (with_reducible apply At.alloc) | (with_reducible apply At.drew) | (with_reducible apply At.drewN) | exact (rfl : Array.setIfInBounds _ _ _ = _) | (refine Ne.symm ?_; simp; done) | (show _ ≠ _; simp; done) | (show _ ≠ _; simp; omega) | (show _ ≠ _; omega))); (first | done | fail)) hb; have k1_w1c := At.cell k1_w1; have k1_w1f := At.frozen k1_w1; have k1_w1h := Lib.hid k1_w1; clear k1_w1; have hb_w1 : Below w.heap.size w w1 := Below.trans (by exact (by repeat (first | exact Below.refl _ _ | assumption | (refine Below.setCell ?_ (by first | (simp; done) | (simp; omega) | omega) _) | (refine Below.alloc ?_ (by first | (simp; done) | (simp; omega) | omega) _) | (refine Below.drew ?_) | (refine Below.drewN' ?_ _)))) (hb.mono (by first | (simp; done) | (simp; omega) | omega)); obtain ⟨hc_w1, hf_w1⟩ := bcell hb_w1; clear hb))
        go_quiet (exact quiet_eq (HD.out _ (by repeat (first | exact Below.refl _ _ | assumption | (refine Below.setCell ?_ (by first | (simp; done) | (simp; omega) | omega) _) | (refine Below.alloc ?_ (by first | (simp; done) | (simp; omega) | omega) _) | (refine Below.drew ?_) | (refine Below.drewN' ?_ _)))))
        go_wp2_with fail
        go_ret2
        exact ⟨rfl, HM0.out _ (by repeat (first | exact Below.refl _ _ | assumption | (refine Below.setCell ?_ (by first | (simp; done) | (simp; omega) | omega) _) | (refine Below.alloc ?_ (by first | (simp; done) | (simp; omega) | omega) _) | (refine Below.drew ?_) | (refine Below.drewN' ?_ _)))⟩
      rw [if_neg hdp]
      have c4 : decide (T.dep < (dd : Int) + 1 + hg) = false := by simp; omega
      have HDp := Lib.hid hdp
      clear hdp
      cases hr : T.roomFor sz with
      | false =>
        unfold DT.roomFor at hr
        rw [hr] at HRo
        rw [if_pos rfl]
        clear hr
        go_enter Try.func46, Try.ntmps46
        go_wp2_with (first | ((with_reducible refine (HGP.out _ (by repeat (first | exact Below.refl _ _ | assumption | (refine Below.setCell ?_ (by first | (simp; done) | (simp; omega) | omega) _) | (refine Below.alloc ?_ (by first | (simp; done) | (simp; omega) | omega) _) | (refine Below.drew ?_) | (refine Below.drewN' ?_ _)))).mono ?_); rintro e w' ⟨rfl, rfl⟩) | ((with_reducible refine (HMe.out _ (by repeat (first | exact Below.refl _ _ | assumption | (refine Below.setCell ?_ (by first | (simp; done) | (simp; omega) | omega) _) | (refine Below.alloc ?_ (by first | (simp; done) | (simp; omega) | omega) _) | (refine Below.drew ?_) | (refine Below.drewN' ?_ _)))).mono ?_); rintro e w1 ⟨rfl, hb⟩; have hz_w1 := hb.size; (try simp only [World.size_alloc, World.size_setCell, World.size_drew, size_drewN'] at hz_w1); have k0_w1 : At w1 (w.heap.size) 36 #[.pointer (some ⟨tb, 0, none⟩)] := At.keep (by (repeat' (first | (with_reducible assumption) | (with_reducible refine unhid ?_; with_reducible assumption) | (with_reducible refine At.fresh _ _ _ (by first | (simp; done) | (simp; omega) | omega)) | (with_reducible apply At.set') | (with_reducible apply At.far) | (with_reducible apply At.alloc) | (with_reducible apply At.drew) | (with_reducible apply At.drewN) | exact (rfl : Array.setIfInBounds _ _ _ = _) | (refine Ne.symm ?_; simp; done) | (show _ ≠ _; simp; done) | (show _ ≠ _; simp; omega) | (show _ ≠ _; omega))); (first | done | fail)) hb; have k0_w1c := At.cell k0_w1; have k0_w1f := At.frozen k0_w1; have k0_w1h := Lib.hid k0_w1; clear k0_w1; have k1_w1 : At w1 (w.heap.size + 1) 41 #[I t, .slice a5 n5 c5, .string x, .slice a6 n6 c6] := At.keep (by (repeat' (first | (with_reducible assumption) | (with_reducible refine unhid ?_; with_reducible assumption) | (with_reducible refine At.fresh _ _ _ (by first | (simp; done) | (simp; omega) | omega)) | (with_reducible apply At.set') | (with_reducible apply At.far) | (with_reducible apply At.alloc) | (with_reducible apply At.drew) | (with_reducible apply At.drewN) | exact (rfl : Array.setIfInBounds _ _ _ = _) | (refine Ne.symm ?_; simp; done) | (show _ ≠ _; simp; done) | (show _ ≠ _; simp; omega) | (show _ ≠ _; omega))); (first | done | fail)) hb; have k1_w1c := At.cell k1_w1; have k1_w1f := At.frozen k1_w1; have k1_w1h := Lib.hid k1_w1; clear k1_w1; have hb_w1 : Below w.heap.size w w1 := Below.trans (by exact (by repeat (first | exact Below.refl _ _ | assumption | (refine Below.setCell ?_ (by first | (simp; done) | (simp; omega) | omega) _) | (refine Below.alloc ?_ (by first | (simp; done) | (simp; omega) | omega) _) | (refine Below.drew ?_) | (refine Below.drewN' ?_ _)))) (hb.mono (by first | (simp; done) | (simp; omega) | omega)); obtain ⟨hc_w1, hf_w1⟩ := bcell hb_w1; clear hb))
        go_quiet (exact quiet_eq (HD.out _ (by repeat (first | exact Below.refl _ _ | assumption | (refine Below.setCell ?_ (by first | (simp; done) | (simp; omega) | omega) _) | (refine Below.alloc ?_ (by first | (simp; done) | (simp; omega) | omega) _) | (refine Below.drew ?_) | (refine Below.drewN' ?_ _)))))
        go_wp2_with (first | ((with_reducible refine (HRo.out _ (by repeat (first | exact Below.refl _ _ | assumption | (refine Below.setCell ?_ (by first | (simp; done) | (simp; omega) | omega) _) | (refine Below.alloc ?_ (by first | (simp; done) | (simp; omega) | omega) _) | (refine Below.drew ?_) | (refine Below.drewN' ?_ _)))).mono ?_); rintro e w2 ⟨rfl, hb⟩; have hz_w2 := hb.size; (try simp only [World.size_alloc, World.size_setCell, World.size_drew, size_drewN'] at hz_w2); have k0_w2 : At w2 (w.heap.size) 36 #[.pointer (some ⟨tb, 0, none⟩)] := At.keep (by (repeat' (first | (with_reducible assumption) | (with_reducible refine unhid ?_; with_reducible assumption) | (with_reducible refine At.fresh _ _ _ (by first | (simp; done) | (simp; omega) | omega)) | (with_reducible apply At.set') | (with_reducible apply At.far) | (with_reducible apply At.alloc) | (with_reducible apply At.drew) | (with_reducible apply At.drewN) | exact (rfl : Array.setIfInBounds _ _ _ = _) | (refine Ne.symm ?_; simp; done) | (show _ ≠ _; simp; done) | (show _ ≠ _; simp; omega) | (show _ ≠ _; omega))); (first | done | fail)) hb; have k0_w2c := At.cell k0_w2; have k0_w2f := At.frozen k0_w2; have k0_w2h := Lib.hid k0_w2; clear k0_w2; have k1_w2 : At w2 (w.heap.size + 1) 41 #[I t, .slice a5 n5 c5, .string x, .slice a6 n6 c6] := At.keep (by (repeat' (first | (with_reducible assumption) | (with_reducible refine unhid ?_; with_reducible assumption) | (with_reducible refine At.fresh _ _ _ (by first | (simp; done) | (simp; omega) | omega)) | (with_reducible apply At.set') | (with_reducible apply At.far) | (with_reducible apply At.alloc) | (with_reducible apply At.drew) | (with_reducible apply At.drewN) | exact (rfl : Array.setIfInBounds _ _ _ = _) | (refine Ne.symm ?_; simp; done) | (show _ ≠ _; simp; done) | (show _ ≠ _; simp; omega) | (show _ ≠ _; omega))); (first | done | fail)) hb; have k1_w2c := At.cell k1_w2; have k1_w2f := At.frozen k1_w2; have k1_w2h := Lib.hid k1_w2; clear k1_w2; have hb_w2 : Below w.heap.size w w2 := Below.trans (by exact (by repeat (first | exact Below.refl _ _ | assumption | (refine Below.setCell ?_ (by first | (simp; done) | (simp; omega) | omega) _) | (refine Below.alloc ?_ (by first | (simp; done) | (simp; omega) | omega) _) | (refine Below.drew ?_) | (refine Below.drewN' ?_ _)))) (hb.mono (by first | (simp; done) | (simp; omega) | omega)); obtain ⟨hc_w2, hf_w2⟩ := bcell hb_w2; clear hb))
        go_ret2
        exact ⟨rfl, HM0.out _ (by repeat (first | exact Below.refl _ _ | assumption | (refine Below.setCell ?_ (by first | (simp; done) | (simp; omega) | omega) _) | (refine Below.alloc ?_ (by first | (simp; done) | (simp; omega) | omega) _) | (refine Below.drew ?_) | (refine Below.drewN' ?_ _)))⟩
      | true =>
        unfold DT.roomFor at hr
        rw [hr] at HRo
        rw [if_neg (by simp)]
        have hroom : (T.count : Int) + sz ≤ T.cap := by simp at hr; omega
        clear hr
        have hok : nd.ok anew := PNode.err_ok nd (by rw [HQ.out.2.2, HE.out])
        have hhd : (hg : Int) ≤ T.dep := by have := HDp.out; omega
        have hPW : (DT.graftP anew nd T).2.WF := by
          refine (DT.graft_put (f := anew) nd T HH.out.2.2.1 hok ?_ ?_).wf
          · rw [HQ.out.1]; exact hroom
          · rw [HQ.out.2.1]; exact hhd
        have HPut := Lib.hid (fun (W : World) (tc pc : Nat) (a1 : _) (a2 : _) (a3 : _) (a4 : _) (a5 : _) => hput.out W tc pc a1 a2 a3 a4 a5 hok hroom hhd)
        have HIn := Lib.hid (fun (W w5 : World) (a1 : _) (a2 : _) => hIns.out W w5 (DT.graftP anew nd T).2 (DT.graftP anew nd T).1 hPW a1 a2)
        clear hput hIns hok hhd hPW
        generalize (DT.graftP anew nd T).1 = kid at *
        generalize (DT.graftP anew nd T).2 = T' at *
        generalize hri : T'.insert parent pos (kid : Int) = ri at *
        have hblk := HH.out.1.lt
        have HBl := Lib.hid hblk
        clear hblk hri
        go_enter Try.func46, Try.ntmps46
        go_wp2_with (first | ((with_reducible refine (HGP.out _ (by repeat (first | exact Below.refl _ _ | assumption | (refine Below.setCell ?_ (by first | (simp; done) | (simp; omega) | omega) _) | (refine Below.alloc ?_ (by first | (simp; done) | (simp; omega) | omega) _) | (refine Below.drew ?_) | (refine Below.drewN' ?_ _)))).mono ?_); rintro e w' ⟨rfl, rfl⟩) | ((with_reducible refine (HMe.out _ (by repeat (first | exact Below.refl _ _ | assumption | (refine Below.setCell ?_ (by first | (simp; done) | (simp; omega) | omega) _) | (refine Below.alloc ?_ (by first | (simp; done) | (simp; omega) | omega) _) | (refine Below.drew ?_) | (refine Below.drewN' ?_ _)))).mono ?_); rintro e w1 ⟨rfl, hb⟩; have hz_w1 := hb.size; (try simp only [World.size_alloc, World.size_setCell, World.size_drew, size_drewN'] at hz_w1); have k0_w1 : At w1 (w.heap.size) 36 #[.pointer (some ⟨tb, 0, none⟩)] := At.keep (by (repeat' (first | (with_reducible assumption) | (with_reducible refine unhid ?_; with_reducible assumption) | (with_reducible refine At.fresh _ _ _ (by first | (simp; done) | (simp; omega) | omega)) | (with_reducible apply At.set') | (with_reducible apply At.far) | (with_reducible apply At.alloc) | (with_reducible apply At.drew) | (with_reducible apply At.drewN) | exact (rfl : Array.setIfInBounds _ _ _ = _) | (refine Ne.symm ?_; simp; done) | (show _ ≠ _; simp; done) | (show _ ≠ _; simp; omega) | (show _ ≠ _; omega))); (first | done | fail)) hb; have k0_w1c := At.cell k0_w1; have k0_w1f := At.frozen k0_w1; have k0_w1h := Lib.hid k0_w1; clear k0_w1; have k1_w1 : At w1 (w.heap.size + 1) 41 #[I t, .slice a5 n5 c5, .string x, .slice a6 n6 c6] := At.keep (by (repeat' (first | (with_reducible assumption) | (with_reducible refine unhid ?_; with_reducible assumption) | (with_reducible refine At.fresh _ _ _ (by first | (simp; done) | (simp; omega) | omega)) | (with_reducible apply At.set') | (with_reducible apply At.far) | (with_reducible apply At.alloc) | (with_reducible apply At.drew) | (with_reducible apply At.drewN) | exact (rfl : Array.setIfInBounds _ _ _ = _) | (refine Ne.symm ?_; simp; done) | (show _ ≠ _; simp; done) | (show _ ≠ _; simp; omega) | (show _ ≠ _; omega))); (first | done | fail)) hb; have k1_w1c := At.cell k1_w1; have k1_w1f := At.frozen k1_w1; have k1_w1h := Lib.hid k1_w1; clear k1_w1; have hb_w1 : Below w.heap.size w w1 := Below.trans (by exact (by repeat (first | exact Below.refl _ _ | assumption | (refine Below.setCell ?_ (by first | (simp; done) | (simp; omega) | omega) _) | (refine Below.alloc ?_ (by first | (simp; done) | (simp; omega) | omega) _) | (refine Below.drew ?_) | (refine Below.drewN' ?_ _)))) (hb.mono (by first | (simp; done) | (simp; omega) | omega)); obtain ⟨hc_w1, hf_w1⟩ := bcell hb_w1; clear hb))
        go_quiet (exact quiet_eq (HD.out _ (by repeat (first | exact Below.refl _ _ | assumption | (refine Below.setCell ?_ (by first | (simp; done) | (simp; omega) | omega) _) | (refine Below.alloc ?_ (by first | (simp; done) | (simp; omega) | omega) _) | (refine Below.drew ?_) | (refine Below.drewN' ?_ _)))))
        go_wp2_with (first | ((with_reducible refine (HRo.out _ (by repeat (first | exact Below.refl _ _ | assumption | (refine Below.setCell ?_ (by first | (simp; done) | (simp; omega) | omega) _) | (refine Below.alloc ?_ (by first | (simp; done) | (simp; omega) | omega) _) | (refine Below.drew ?_) | (refine Below.drewN' ?_ _)))).mono ?_); rintro e w2 ⟨rfl, hb⟩; have hz_w2 := hb.size; (try simp only [World.size_alloc, World.size_setCell, World.size_drew, size_drewN'] at hz_w2); have k0_w2 : At w2 (w.heap.size) 36 #[.pointer (some ⟨tb, 0, none⟩)] := At.keep (by (repeat' (first | (with_reducible assumption) | (with_reducible refine unhid ?_; with_reducible assumption) | (with_reducible refine At.fresh _ _ _ (by first | (simp; done) | (simp; omega) | omega)) | (with_reducible apply At.set') | (with_reducible apply At.far) | (with_reducible apply At.alloc) | (with_reducible apply At.drew) | (with_reducible apply At.drewN) | exact (rfl : Array.setIfInBounds _ _ _ = _) | (refine Ne.symm ?_; simp; done) | (show _ ≠ _; simp; done) | (show _ ≠ _; simp; omega) | (show _ ≠ _; omega))); (first | done | fail)) hb; have k0_w2c := At.cell k0_w2; have k0_w2f := At.frozen k0_w2; have k0_w2h := Lib.hid k0_w2; clear k0_w2; have k1_w2 : At w2 (w.heap.size + 1) 41 #[I t, .slice a5 n5 c5, .string x, .slice a6 n6 c6] := At.keep (by (repeat' (first | (with_reducible assumption) | (with_reducible refine unhid ?_; with_reducible assumption) | (with_reducible refine At.fresh _ _ _ (by first | (simp; done) | (simp; omega) | omega)) | (with_reducible apply At.set') | (with_reducible apply At.far) | (with_reducible apply At.alloc) | (with_reducible apply At.drew) | (with_reducible apply At.drewN) | exact (rfl : Array.setIfInBounds _ _ _ = _) | (refine Ne.symm ?_; simp; done) | (show _ ≠ _; simp; done) | (show _ ≠ _; simp; omega) | (show _ ≠ _; omega))); (first | done | fail)) hb; have k1_w2c := At.cell k1_w2; have k1_w2f := At.frozen k1_w2; have k1_w2h := Lib.hid k1_w2; clear k1_w2; have hb_w2 : Below w.heap.size w w2 := Below.trans (by exact (by repeat (first | exact Below.refl _ _ | assumption | (refine Below.setCell ?_ (by first | (simp; done) | (simp; omega) | omega) _) | (refine Below.alloc ?_ (by first | (simp; done) | (simp; omega) | omega) _) | (refine Below.drew ?_) | (refine Below.drewN' ?_ _)))) (hb.mono (by first | (simp; done) | (simp; omega) | omega)); obtain ⟨hc_w2, hf_w2⟩ := bcell hb_w2; clear hb) | ((with_reducible refine (HPut.out _ _ _ (by repeat (first | exact Below.refl _ _ | assumption | (refine Below.setCell ?_ (by first | (simp; done) | (simp; omega) | omega) _) | (refine Below.alloc ?_ (by first | (simp; done) | (simp; omega) | omega) _) | (refine Below.drew ?_) | (refine Below.drewN' ?_ _))) (by (repeat' (first | (with_reducible assumption) | (with_reducible refine unhid ?_; with_reducible assumption) | (with_reducible refine At.fresh _ _ _ (by first | (simp; done) | (simp; omega) | omega)) | (with_reducible apply At.set') | (with_reducible apply At.far) | (with_reducible apply At.alloc) | (with_reducible apply At.drew) | (with_reducible apply At.drewN) | exact (rfl : Array.setIfInBounds _ _ _ = _) | (refine Ne.symm ?_; simp; done) | (show _ ≠ _; simp; done) | (show _ ≠ _; simp; omega) | (show _ ≠ _; omega))); (first | done | fail)) (by (repeat' (first | (with_reducible assumption) | (with_reducible refine unhid ?_; with_reducible assumption) | (with_reducible refine At.fresh _ _ _ (by first | (simp; done) | (simp; omega) | omega)) | (with_reducible apply At.set') | (with_reducible apply At.far) | (with_reducible apply At.alloc) | (with_reducible apply At.drew) | (with_reducible apply At.drewN) | exact (rfl : Array.setIfInBounds _ _ _ = _) | (refine Ne.symm ?_; simp; done) | (show _ ≠ _; simp; done) | (show _ ≠ _; simp; omega) | (show _ ≠ _; omega))); (first | done | fail)) (by first | (simp; done) | (simp; omega) | omega) (by first | (simp; done) | (simp; omega) | omega)).mono ?_); rintro e w5 ⟨rfl, hM⟩; have hMo := hM.2; have kt5 : At w5 w.heap.size 36 #[.pointer (some ⟨tb, 0, none⟩)] := (hMo.block _ (At.lt (t := 36) (cs := #[.pointer (some ⟨tb, 0, none⟩)]) (by (repeat' (first | (with_reducible assumption) | (with_reducible refine unhid ?_; with_reducible assumption) | (with_reducible refine At.fresh _ _ _ (by first | (simp; done) | (simp; omega) | omega)) | (with_reducible apply At.set') | (with_reducible apply At.far) | (with_reducible apply At.alloc) | (with_reducible apply At.drew) | (with_reducible apply At.drewN) | exact (rfl : Array.setIfInBounds _ _ _ = _) | (refine Ne.symm ?_; simp; done) | (show _ ≠ _; simp; done) | (show _ ≠ _; simp; omega) | (show _ ≠ _; omega))); (first | done | fail))) (fun hx => by have := HBl.out _ hx; omega)).trans (show At _ w.heap.size 36 #[.pointer (some ⟨tb, 0, none⟩)] from (by (repeat' (first | (with_reducible assumption) | (with_reducible refine unhid ?_; with_reducible assumption) | (with_reducible refine At.fresh _ _ _ (by first | (simp; done) | (simp; omega) | omega)) | (with_reducible apply At.set') | (with_reducible apply At.far) | (with_reducible apply At.alloc) | (with_reducible apply At.drew) | (with_reducible apply At.drewN) | exact (rfl : Array.setIfInBounds _ _ _ = _) | (refine Ne.symm ?_; simp; done) | (show _ ≠ _; simp; done) | (show _ ≠ _; simp; omega) | (show _ ≠ _; omega))); (first | done | fail))); have kt5c := kt5.cell; have kt5l := kt5.lt; have HI5 := Lib.hid (HIn.out _ _ (by repeat (first | exact Below.refl _ _ | assumption | (refine Below.setCell ?_ (by first | (simp; done) | (simp; omega) | omega) _) | (refine Below.alloc ?_ (by first | (simp; done) | (simp; omega) | omega) _) | (refine Below.drew ?_) | (refine Below.drewN' ?_ _))) hM); clear hM hMo kt5) | ((with_reducible refine HI5.out.mono ?_); rintro e w6 ⟨rfl, hM⟩; have HM6 := Lib.hid hM; clear hM))
        go_ret2
        exact ⟨rfl, HM6.out⟩
    · have c3 : (er == 0) = false := by simp [he]
      have c3' : (er != 0) = true := by simp [he]
      rw [if_pos he]
      clear he
      go_enter Try.func46, Try.ntmps46
      go_wp2_with (first | ((with_reducible refine (HGP.out _ (by repeat (first | exact Below.refl _ _ | assumption | (refine Below.setCell ?_ (by first | (simp; done) | (simp; omega) | omega) _) | (refine Below.alloc ?_ (by first | (simp; done) | (simp; omega) | omega) _) | (refine Below.drew ?_) | (refine Below.drewN' ?_ _)))).mono ?_); rintro e w' ⟨rfl, rfl⟩) | ((with_reducible refine (HMe.out _ (by repeat (first | exact Below.refl _ _ | assumption | (refine Below.setCell ?_ (by first | (simp; done) | (simp; omega) | omega) _) | (refine Below.alloc ?_ (by first | (simp; done) | (simp; omega) | omega) _) | (refine Below.drew ?_) | (refine Below.drewN' ?_ _)))).mono ?_); rintro e w1 ⟨rfl, hb⟩; have hz_w1 := hb.size; (try simp only [World.size_alloc, World.size_setCell, World.size_drew, size_drewN'] at hz_w1); have k0_w1 : At w1 (w.heap.size) 36 #[.pointer (some ⟨tb, 0, none⟩)] := At.keep (by (repeat' (first | (with_reducible assumption) | (with_reducible refine unhid ?_; with_reducible assumption) | (with_reducible refine At.fresh _ _ _ (by first | (simp; done) | (simp; omega) | omega)) | (with_reducible apply At.set') | (with_reducible apply At.far) | (with_reducible apply At.alloc) | (with_reducible apply At.drew) | (with_reducible apply At.drewN) | exact (rfl : Array.setIfInBounds _ _ _ = _) | (refine Ne.symm ?_; simp; done) | (show _ ≠ _; simp; done) | (show _ ≠ _; simp; omega) | (show _ ≠ _; omega))); (first | done | fail)) hb; have k0_w1c := At.cell k0_w1; have k0_w1f := At.frozen k0_w1; have k0_w1h := Lib.hid k0_w1; clear k0_w1; have k1_w1 : At w1 (w.heap.size + 1) 41 #[I t, .slice a5 n5 c5, .string x, .slice a6 n6 c6] := At.keep (by (repeat' (first | (with_reducible assumption) | (with_reducible refine unhid ?_; with_reducible assumption) | (with_reducible refine At.fresh _ _ _ (by first | (simp; done) | (simp; omega) | omega)) | (with_reducible apply At.set') | (with_reducible apply At.far) | (with_reducible apply At.alloc) | (with_reducible apply At.drew) | (with_reducible apply At.drewN) | exact (rfl : Array.setIfInBounds _ _ _ = _) | (refine Ne.symm ?_; simp; done) | (show _ ≠ _; simp; done) | (show _ ≠ _; simp; omega) | (show _ ≠ _; omega))); (first | done | fail)) hb; have k1_w1c := At.cell k1_w1; have k1_w1f := At.frozen k1_w1; have k1_w1h := Lib.hid k1_w1; clear k1_w1; have hb_w1 : Below w.heap.size w w1 := Below.trans (by exact (by repeat (first | exact Below.refl _ _ | assumption | (refine Below.setCell ?_ (by first | (simp; done) | (simp; omega) | omega) _) | (refine Below.alloc ?_ (by first | (simp; done) | (simp; omega) | omega) _) | (refine Below.drew ?_) | (refine Below.drewN' ?_ _)))) (hb.mono (by first | (simp; done) | (simp; omega) | omega)); obtain ⟨hc_w1, hf_w1⟩ := bcell hb_w1; clear hb))
      go_ret2
      exact ⟨rfl, HM0.out _ (by repeat (first | exact Below.refl _ _ | assumption | (refine Below.setCell ?_ (by first | (simp; done) | (simp; omega) | omega) _) | (refine Below.alloc ?_ (by first | (simp; done) | (simp; omega) | omega) _) | (refine Below.drew ?_) | (refine Below.drewN' ?_ _)))⟩
end
end Go.Proofs.Ytnnjlpkjpbbklaa
