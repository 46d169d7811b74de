/-
  weigh of chapter 8's statements. Conditions: the plain tree lies in memory.
-/
import Derived.Test.YtnnjlpkjpbbklaaSame
set_option linter.unusedVariables false
set_option linter.unusedSimpArgs false
namespace Go.Proofs.Ytnnjlpkjpbbklaa
open Go.RowKit

namespace PNode
mutual
def weigh : PNode → Int → Int
  | .mk _ a x ks, left => if 20000 < x.size ∨ 200 < a.length then -1 else weighL ks (left - 1 - (a.length : Int) - ((x.size / 64 : Nat) : Int))
def weighL : List PNode → Int → Int
  | [], left => left
  | k :: ks, left => if left < 0 then left else weighL ks (weigh k left)
end
theorem weighL_cons (k : PNode) (ks : List PNode) (left : Int) : weighL (k :: ks) left = if left < 0 then left else weighL ks (weigh k left) := rfl
theorem weighL_neg (ks : List PNode) {left : Int} (h : left < 0) : weighL ks left = left := by
  cases ks with
  | nil => rfl
  | cons k ks => rw [weighL_cons, if_pos h]
theorem weighL_append (l : List PNode) (k : PNode) (left : Int) : weighL (l ++ [k]) left = if weighL l left < 0 then weighL l left else weigh k (weighL l left) := by
  induction l generalizing left with
  | nil => rfl
  | cons x l ih =>
    rw [List.cons_append, weighL_cons, weighL_cons]
    split
    · rfl
    · exact ih _
theorem weighL_stop (l r : List PNode) (left : Int) (h : weighL l left < 0) : weighL (l ++ r) left = weighL l left := by
  induction l generalizing left with
  | nil => exact weighL_neg r h
  | cons x l ih =>
    rw [List.cons_append, weighL_cons, weighL_cons]
    rw [weighL_cons] at h
    split
    · rfl
    · rename_i hl
      rw [if_neg hl] at h
      exact ih _ h
theorem weigh_bd : ∀ (n : PNode) (left : Int), -600 ≤ left → -1200 ≤ n.weigh left ∧ (n.weigh left ≤ left - 1 ∨ n.weigh left = -1) ∧ (0 ≤ left → -600 ≤ n.weigh left ∧ n.weigh left ≤ left - 1) := by
  intro n
  induction n using ind with
  | h t a x ks ih =>
    intro left hl
    unfold weigh
    split
    · exact ⟨by omega, .inr rfl, fun h => ⟨by omega, by omega⟩⟩
    · rename_i h
      simp only [not_or, Nat.not_lt] at h
      have key : ∀ (ks : List PNode) (l : Int), (∀ k ∈ ks, ∀ left : Int, -600 ≤ left → -1200 ≤ k.weigh left ∧ (k.weigh left ≤ left - 1 ∨ k.weigh left = -1) ∧ (0 ≤ left → -600 ≤ k.weigh left ∧ k.weigh left ≤ left - 1)) → weighL ks l ≤ l ∧ (l < 0 → weighL ks l = l) ∧ (0 ≤ l → -600 ≤ weighL ks l) := by
        intro ks
        induction ks with
        | nil => intro l _; exact ⟨Int.le_refl _, fun _ => rfl, fun h => by show -600 ≤ l; omega⟩
        | cons k ks ih2 =>
          intro l ih
          rw [weighL_cons]
          split
          · exact ⟨Int.le_refl _, fun _ => rfl, fun h => by omega⟩
          · rename_i hl
            have h1 := ih k (by simp) l (by omega)
            have h2 := h1.2.2 (by omega)
            obtain ⟨a1, a2, a3⟩ := ih2 (k.weigh l) (fun k' hk' => ih k' (by simp [hk']))
            refine ⟨by omega, fun h => by omega, fun _ => ?_⟩
            by_cases h0 : k.weigh l < 0
            · rw [a2 h0]; exact h2.1
            · exact a3 (by omega)
      have hx : ((x.size / 64 : Nat) : Int) ≤ 312 := by omega
      have hx0 : (0 : Int) ≤ ((x.size / 64 : Nat) : Int) := by omega
      obtain ⟨k1, k2, k3⟩ := key ks (left - 1 - (a.length : Int) - ((x.size / 64 : Nat) : Int)) ih
      generalize ((x.size / 64 : Nat) : Int) = xq at *
      by_cases h0 : left - 1 - (a.length : Int) - xq < 0
      · rw [k2 h0]
        exact ⟨by omega, .inl (by omega), fun h => ⟨by omega, by omega⟩⟩
      · have := k3 (by omega)
        exact ⟨by omega, .inl (by omega), fun h => ⟨by omega, by omega⟩⟩
theorem weigh_ok : ∀ (n : PNode) (left : Int), left ≤ 1000000 → 0 ≤ n.weigh left → n.small ∧ n.thin ∧ (n.size : Int) + n.weigh left ≤ left := by
  intro n
  induction n using ind with
  | h t a x ks ih =>
    intro left hl h
    unfold weigh at h ⊢
    split at h
    · omega
    · rename_i hb
      rw [if_neg hb]
      simp only [not_or, Nat.not_lt] at hb
      have key : ∀ (ks : List PNode) (l : Int), (∀ k ∈ ks, ∀ left : Int, left ≤ 1000000 → 0 ≤ k.weigh left → k.small ∧ k.thin ∧ (k.size : Int) + k.weigh left ≤ left) → l ≤ 1000000 → 0 ≤ weighL ks l → smallL ks ∧ thinL ks ∧ (sizeL ks : Int) + weighL ks l ≤ l := by
        intro ks
        induction ks with
        | nil => intro l _ _ _; exact ⟨trivial, trivial, by show (0 : Int) + l ≤ l; omega⟩
        | cons k ks ih2 =>
          intro l ih hl h
          rw [weighL_cons] at h ⊢
          split at h
          · omega
          · rename_i h0
            rw [if_neg h0]
            have hk0 : 0 ≤ k.weigh l := by
              by_cases e : k.weigh l < 0
              · rw [weighL_neg ks e] at h; omega
              · omega
            obtain ⟨a1, a2, a3⟩ := ih k (by simp) l hl hk0
            obtain ⟨b1, b2, b3⟩ := ih2 (k.weigh l) (fun k' hk' => ih k' (by simp [hk'])) (by omega) h
            rw [sizeL_cons]
            exact ⟨⟨a1, b1⟩, ⟨a2, b2⟩, by omega⟩
      have hx0 : (0 : Int) ≤ ((x.size / 64 : Nat) : Int) := by omega
      obtain ⟨k1, k2, k3⟩ := key ks _ ih (by omega) h
      have hkl := sizeL_length ks
      unfold small thin size
      refine ⟨⟨by omega, by omega, k1⟩, ⟨by omega, k2⟩, ?_⟩
      generalize ((x.size / 64 : Nat) : Int) = xq at *
      omega
end PNode

set_option maxHeartbeats 2000000 in
theorem weigh_any : ∀ (V : VN) (R : Nat → Prop) (w : World) (left : Int), PV w R V → (∀ b, R b → b < w.heap.size) → -600 ≤ left → left ≤ 1000000 → Calls Try.prog 45 #[V.agg, I left] w (Ret (I (V.node.weigh left)) w) := by
  intro V
  induction V using VN.ind with
  | h t al x av kv ks ih =>
    intro R w left hP hR hl0 hl1
    rw [VN.node_mk]
    cases hP with
    | mk ha hk hkids =>
      obtain ⟨AA, ac, rfl, hac1, hac2, hA0⟩ := ha.form
      obtain ⟨KA, kc, rfl, hkc1, hkc2, hK0⟩ := hk.form
      dsimp only [VN.agg]
      unfold PNode.weigh
      have hml : ks.length ≤ maxLen := by omega
      have haml : al.length ≤ maxLen := by omega
      have HK := Lib.hid (And.intro hk (And.intro hkids hR))
      have IH := Lib.hid ih
      clear ha hk hkids hR ih hA0 hK0
      generalize ham : al.length = am at *
      have HAM := Lib.hid ham
      generalize hm : ks.length = m at *
      have HM := Lib.hid hm
      clear ham hm
      by_cases hx : 20000 < x.size
      · have c1 : decide (20000 < (x.size : Int)) = true := by simp; omega
        have c1' : decide (20000 < x.size) = true := by simp; omega
        rw [if_pos (.inl hx)]
        clear hx
        go_enter Try.func45, Try.ntmps45
        go_wp2_with fail
        go_ret
        exact ⟨rfl, (by repeat (first | exact Below.refl _ _ | assumption | (refine Below.setCell ?_ (by first | (simp; done) | (simp; omega) | omega) _) | (refine Below.alloc ?_ (by first | (simp; done) | (simp; omega) | omega) _) | (refine Below.drew ?_) | (refine Below.drewN' ?_ _)))⟩
      · have c1 : decide (20000 < (x.size : Int)) = false := by simp; omega
        have c1' : decide (20000 < x.size) = false := by simp; omega
        by_cases ha : 200 < am
        · have c2 : decide (200 < (am : Int)) = true := by simp; omega
          have c2' : decide (200 < am) = true := by simp; omega
          rw [if_pos (.inr ha)]
          clear ha hx
          go_enter Try.func45, Try.ntmps45
          go_wp2_with fail
          go_ret
          exact ⟨rfl, (by repeat (first | exact Below.refl _ _ | assumption | (refine Below.setCell ?_ (by first | (simp; done) | (simp; omega) | omega) _) | (refine Below.alloc ?_ (by first | (simp; done) | (simp; omega) | omega) _) | (refine Below.drew ?_) | (refine Below.drewN' ?_ _)))⟩
        · have c2 : decide (200 < (am : Int)) = false := by simp; omega
          have c2' : decide (200 < am) = false := by simp; omega
          rw [if_neg (by simp only [not_or]; exact ⟨hx, ha⟩)]
          have hx2 : x.size ≤ 20000 := by omega
          have ha2 : am ≤ 200 := by omega
          clear hx ha
          go_enter Try.func45, Try.ntmps45
          go_wp2_with fail
          have hL0 : -1200 ≤ left - 1 - (am : Int) - (x.size : Int) / 64 ∧ left - 1 - (am : Int) - (x.size : Int) / 64 ≤ 1000000 := by omega
          have eL : left - 1 - (am : Int) - ((x.size / 64 : Nat) : Int) = left - 1 - (am : Int) - (x.size : Int) / 64 := by omega
          have HEL : Hid (left - 1 - (am : Int) - ((x.size / 64 : Nat) : Int) = left - 1 - (am : Int) - (x.size : Int) / 64) := eL
          clear eL
          generalize left - 1 - (am : Int) - (x.size : Int) / 64 = L at *
          go_loopw [1, 5] (fun s1 s5 wr => ∃ (k : Nat) (v : Int), k ≤ m ∧ s5 = .int .i64 (k : Int) ∧ s1 = .int .i64 v ∧ -1200 ≤ v ∧ v + k ≤ L ∧ Hid (v = PNode.weighL ((ks.take k).map VN.node) L) ∧ Hid (Below w.heap.size w wr) ∧ Hid (At wr w.heap.size 41 #[I t, .slice AA am ac, .string x, .slice KA m kc])) (fun _ s5 _ => m - (intOf s5).toNat)
          case atStart => exact ⟨0, L, Nat.zero_le _, rfl, rfl, hL0.1, by simp, rfl, (by repeat (first | exact Below.refl _ _ | assumption | (refine Below.setCell ?_ (by first | (simp; done) | (simp; omega) | omega) _) | (refine Below.alloc ?_ (by first | (simp; done) | (simp; omega) | omega) _) | (refine Below.drew ?_) | (refine Below.drewN' ?_ _))), At.fresh _ _ _ rfl⟩
          case round =>
            obtain ⟨k, v, hk, rfl, rfl, hv1, hv2, hv, hbr, hbx⟩ := hrel
            have bxc := hbx.out.cell
            have bxl := hbx.out.lt
            have hzr := hbr.out.size
            by_cases hlt : k < m
            · by_cases hv0 : 0 ≤ v
              · have hkl : k < ks.length := by have := HM.out; omega
                obtain ⟨c1, o1, rfl, hR1, hq⟩ := (HK.out.1.keep (fun b hb => hbr.out.block b (HK.out.2.2 b hb))).kid hkl
                have hmem : ks[k] ∈ ks := List.getElem_mem hkl
                have hPV := (HK.out.2.1 _ hmem).keepB hbr.out HK.out.2.2
                have hbd := PNode.weigh_bd (ks[k]).node v (by omega)
                have HI : Hid (∀ W, Below wr.heap.size wr W → Calls Try.prog 45 #[(ks[k]).agg, I v] W (Ret (I ((ks[k]).node.weigh v)) W)) := by
                  intro W hb
                  have hzW := hb.size
                  exact IH.out _ hmem R W v (hPV.keepB hb fun b hb1 => by have := HK.out.2.2 b hb1; omega) (fun b hb1 => by have := HK.out.2.2 b hb1; omega) (by omega) (by omega)
                have e1 : (ks.take (k + 1)).map VN.node = (ks.take k).map VN.node ++ [(ks[k]).node] := by rw [List.take_add_one, List.getElem?_eq_getElem hkl, List.map_append]; rfl
                have hn : (ks[k]).node.weigh v = PNode.weighL ((ks.take (k + 1)).map VN.node) L := by
                  rw [e1, PNode.weighL_append, ← hv.out, if_neg (by omega)]
                have HN := Lib.hid hn
                obtain ⟨kt, kal, kx, d1, d2, d3, d4, d5, d6, kks, hVk⟩ := VN.kid_open hPV
                generalize hwv : (ks[k]).node.weigh v = v' at *
                rw [hVk] at HI hq
                simp only [VN.agg, VN.cells] at HI hq
                have q0 := hq 0 (by omega)
                have q1 := hq 1 (by omega)
                have q2 := hq 2 (by omega)
                have q3 := hq 3 (by omega)
                simp at q0 q1 q2 q3
                have hb3 := hbd.2.2 hv0
                have hlt1 : (k : Int) < (m : Int) := by omega
                clear hq hPV hmem hkl hVk hn hwv e1 hbd
                go_wp2_with (((with_reducible refine (HI.out _ (Below.refl _ _)).mono ?_); rintro e w5 ⟨rfl, hb⟩; have hz_w5 := hb.size; (try simp only [World.size_alloc, World.size_setCell, World.size_drew, size_drewN'] at hz_w5); have k0_w5 : At w5 (w.heap.size) 41 #[I t, .slice AA am ac, .string x, .slice (some ⟨c1, o1, none⟩) m kc] := At.keep (by (repeat' (first | (with_reducible assumption) | (with_reducible refine unhid ?_; with_reducible assumption) | (with_reducible refine At.fresh _ _ _ (by first | (simp; done) | (simp; omega) | omega)) | (with_reducible apply At.set') | (with_reducible apply At.far) | (with_reducible apply At.alloc) | (with_reducible apply At.drew) | (with_reducible apply At.drewN) | exact (rfl : Array.setIfInBounds _ _ _ = _) | (refine Ne.symm ?_; simp; done) | (show _ ≠ _; simp; done) | (show _ ≠ _; simp; omega) | (show _ ≠ _; omega))); (first | done | fail)) hb; have k0_w5c := At.cell k0_w5; have k0_w5f := At.frozen k0_w5; have k0_w5h := Lib.hid k0_w5; clear k0_w5; have hb_w5 : Below wr.heap.size wr w5 := Below.trans (by exact (by repeat (first | exact Below.refl _ _ | assumption | (refine Below.setCell ?_ (by first | (simp; done) | (simp; omega) | omega) _) | (refine Below.alloc ?_ (by first | (simp; done) | (simp; omega) | omega) _) | (refine Below.drew ?_) | (refine Below.drewN' ?_ _)))) (hb.mono (by first | (simp; done) | (simp; omega) | omega)); obtain ⟨hc_w5, hf_w5⟩ := bcell hb_w5; clear hb))
                refine ⟨⟨k + 1, v', by omega, by go_num, rfl, by omega, by omega, HN, hbr.out.trans (hb_w5.mono hzr), k0_w5h⟩, by simp [intOf]; omega⟩
              · have hd : decide (0 ≤ v) = false := by simp; omega
                have hlt1 : (k : Int) < (m : Int) := by omega
                have hn : v = PNode.weighL (ks.map VN.node) L := by
                  have h1 : ks.map VN.node = (ks.take k).map VN.node ++ (ks.drop k).map VN.node := by rw [← List.map_append, List.take_append_drop]
                  rw [h1, PNode.weighL_stop _ _ _ (by rw [← hv.out]; omega)]
                  exact hv.out
                have HN := Lib.hid hn
                clear hn hv0
                go_wp2_with fail
                go_ret
                exact ⟨ret_int (by rw [HEL.out]; exact HN.out), hbr.out⟩
            · have hkm : k = m := by omega
              subst hkm
              have hn : v = PNode.weighL (ks.map VN.node) L := by
                rw [hv.out, List.take_of_length_le (by have := HM.out; omega)]
              have HN := Lib.hid hn
              clear hn
              go_wp2_with fail
              go_ret
              exact ⟨ret_int (by rw [HEL.out]; exact HN.out), hbr.out⟩
end Go.Proofs.Ytnnjlpkjpbbklaa
