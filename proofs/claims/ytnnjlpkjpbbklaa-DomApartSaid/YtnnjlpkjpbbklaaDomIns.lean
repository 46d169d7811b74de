/-
  Insert of package dom. Conditions: the tree lies in memory and is sound.
-/
import Derived.Test.YtnnjlpkjpbbklaaDomKids
import Derived.Test.YtnnjlpkjpbbklaaDomSet2
import Derived.Test.YtnnjlpkjpbbklaaDomWF2
set_option linter.unusedVariables false
set_option linter.unusedSimpArgs false
namespace Go.Proofs.Ytnnjlpkjpbbklaa
open Go.RowKit

section
variable {w : World} {tb : Nat} {T : DT} {nv : Value} {G : List (Option NG)}

theorem nodePtr_form (G : List (Option NG)) (id : Int) : ∃ p, nodePtr G id = .pointer p := by
  unfold nodePtr
  split
  · exact ⟨_, rfl⟩
  · cases (G[id.toNat]?).getD none <;> exact ⟨_, rfl⟩

theorem quiet_eq {P : Program} {f : FuncId} {args : Array Value} {w : World} {n : Nat} {v : Value}
    (h : Calls P f args (w.drewN n) fun e w' => e = .returned v ∧ w.drewN n = w') : Calls P f args (w.drewN n) fun e w'' => e = .returned v ∧ ∃ m, w'' = w.drewN m :=
  h.mono fun _ _ ⟨he, hm⟩ => ⟨he, n, hm.symm⟩

/-- get of a node that is there, in any world that keeps the tree. -/
theorem get_ptr (h : Rep w tb T nv G) (hl : T.nodes.length ≤ 2000) (id : Int) : ∃ p, nodePtr G id = .pointer p ∧ ∀ (W : World), Below w.heap.size w W → Calls Try.prog 112 #[.pointer (some ⟨tb, 0, none⟩), .int .i64 id] W fun e w' => e = .returned (.pointer p) ∧ W = w' := by
  obtain ⟨p, hp⟩ := nodePtr_form G id
  refine ⟨p, hp, fun W hW => ?_⟩
  have := get_any (h.keep hW) hl id
  rw [hp] at this
  exact this

/-- Kids of one node are another row, and another node's parent is written. -/
theorem Mut.linked {S : Nat → Prop} {w1 w2 w' : World} (h : Rep w tb T nv G) (hS : ∀ b ∈ repBlocks tb nv G, S b) {i j : Nat} {n k : Nd} {g gk : NG} {ks : List Nat} {v : Value} {u : Option Nat} (hn : T.at_ i = some n) (hg : G[i]? = some (some g)) (hr : NodeRep w g n)
    (hk : T.at_ j = some k) (hgk : G[j]? = some (some gk)) (hrk : NodeRep w gk k) (hij : i ≠ j) (hb : Below w.heap.size w w1)
    (hrow : Row w2 3 1 v ks.length (kidCells ks)) (hO : Only (fun b => g.kv.ownBlock = some b) w1 w2) (hnew : ∀ b, v.ownBlock = some b → g.kv.ownBlock = some b ∨ w1.heap.size ≤ b)
    (hw : w' = (w2.setCell ⟨g.b, 3, none⟩ v).setCell ⟨gk.b, 4, none⟩ (I (DT.upI u))) : Mut tb ((T.put i (some { n with kids := ks })).put j (some { k with up := u })) S w w' := by
  obtain ⟨hR, hB, hO2⟩ := h.kids hn hg hr hb hrow hO hnew rfl
  generalize hw3 : w2.setCell ⟨g.b, 3, none⟩ v = w3 at *
  have hkj : (T.put i (some { n with kids := ks })).at_ j = some k := by rw [DT.at_put_ne _ (fun e => hij e.symm)]; exact hk
  have hgj : (G.set i (some ⟨g.b, g.av, v⟩))[j]? = some (some gk) := by rw [List.getElem?_set_ne hij]; exact hgk
  have hrj : NodeRep w3 gk k := by
    obtain ⟨g', hg', hr'⟩ := hR.node j k hkj
    rw [hgj] at hg'
    obtain rfl := Option.some.inj (Option.some.inj hg')
    exact hr'
  have hm := Mut.cell (S := fun b => S b ∨ w.heap.size ≤ b) (w1 := w3) (k := 4) (u := I (DT.upI u)) (n' := { k with up := u }) hR (fun b hb1 => (hB b hb1).imp (hS b) id) hkj hgj hrj (Below.refl _ _) hw rfl rfl rfl
  obtain ⟨⟨nv', G', hr', hs'⟩, ho'⟩ := hm
  have hz := hO2.size
  refine ⟨⟨nv', G', hr', fun b hb1 => ?_⟩, ?_⟩
  · rcases hs' b hb1 with h1 | h1
    · exact h1
    · right; omega
  · refine ⟨ho'.os.trans hO2.os, ho'.tape.trans hO2.tape, ho'.output.trans hO2.output, Nat.le_trans hz ho'.size, fun b hb1 hn' => ?_⟩
    rw [ho'.block b (by omega) (by intro hx; rcases hx with hx | hx; exact hn' hx; omega)]
    exact hO2.block b hb1 fun hx => hn' (hS b hx)

set_option maxRecDepth 100000 in
set_option maxHeartbeats 2000000 in
theorem insertNode_any (h : Rep w tb T nv G) {S : Nat → Prop} (hS : ∀ b ∈ repBlocks tb nv G, S b) (hW : T.WF) (parent pos kid : Int) :
    Calls Try.prog 36 #[.pointer (some ⟨tb, 0, none⟩), I parent, I pos, I kid] w fun e w' => e = .returned (I (T.insert parent pos kid).1) ∧ Mut tb (T.insert parent pos kid).2 S w w' := by
  have hl := hW.nodes_le
  have HM0 := Lib.hid (fun (W : World) (hW : Below w.heap.size w W) => Mut.of_below h hS hW)
  obtain ⟨pp, hpp, HGP⟩ := get_ptr h hl parent
  obtain ⟨kp, hkp, HGK⟩ := get_ptr h hl kid
  have HGP := Lib.hid HGP
  have HGK := Lib.hid HGK
  unfold DT.insert
  cases hp : T.get parent with
  | none =>
    have e : pp = none := by rw [h.ptr_none hp] at hpp; cases hpp; rfl
    subst e
    clear hpp hkp hp h hS hW
    go_enter Try.func36, Try.ntmps36
    go_wp2_with (first | ((with_reducible refine (HGP.out _ (by repeat (first | exact Below.refl _ _ | assumption | (refine Below.setCell ?_ (by first | (simp; done) | (simp; omega) | omega) _) | (refine Below.alloc ?_ (by first | (simp; done) | (simp; omega) | omega) _) | (refine Below.drew ?_) | (refine Below.drewN' ?_ _)))).mono ?_); rintro e w' ⟨rfl, rfl⟩) | ((with_reducible refine (HGK.out _ (by repeat (first | exact Below.refl _ _ | assumption | (refine Below.setCell ?_ (by first | (simp; done) | (simp; omega) | omega) _) | (refine Below.alloc ?_ (by first | (simp; done) | (simp; omega) | omega) _) | (refine Below.drew ?_) | (refine Below.drewN' ?_ _)))).mono ?_); rintro e w' ⟨rfl, rfl⟩))
    go_ret
    exact ⟨rfl, HM0.out _ (by repeat (first | exact Below.refl _ _ | assumption | (refine Below.setCell ?_ (by first | (simp; done) | (simp; omega) | omega) _) | (refine Below.alloc ?_ (by first | (simp; done) | (simp; omega) | omega) _) | (refine Below.drew ?_) | (refine Below.drewN' ?_ _)))⟩
  | some p =>
    obtain ⟨g, hpg, hrp, hg⟩ := h.ptr_some hp
    rw [hpp] at hpg
    cases hpg
    cases hk : T.get kid with
    | none =>
      have e : kp = none := by rw [h.ptr_none hk] at hkp; cases hkp; rfl
      subst e
      clear hpp hkp hp hk h hS hW hrp hg
      go_enter Try.func36, Try.ntmps36
      go_wp2_with (first | ((with_reducible refine (HGP.out _ (by repeat (first | exact Below.refl _ _ | assumption | (refine Below.setCell ?_ (by first | (simp; done) | (simp; omega) | omega) _) | (refine Below.alloc ?_ (by first | (simp; done) | (simp; omega) | omega) _) | (refine Below.drew ?_) | (refine Below.drewN' ?_ _)))).mono ?_); rintro e w' ⟨rfl, rfl⟩) | ((with_reducible refine (HGK.out _ (by repeat (first | exact Below.refl _ _ | assumption | (refine Below.setCell ?_ (by first | (simp; done) | (simp; omega) | omega) _) | (refine Below.alloc ?_ (by first | (simp; done) | (simp; omega) | omega) _) | (refine Below.drew ?_) | (refine Below.drewN' ?_ _)))).mono ?_); rintro e w' ⟨rfl, rfl⟩))
      go_ret
      exact ⟨rfl, HM0.out _ (by repeat (first | exact Below.refl _ _ | assumption | (refine Below.setCell ?_ (by first | (simp; done) | (simp; omega) | omega) _) | (refine Below.alloc ?_ (by first | (simp; done) | (simp; omega) | omega) _) | (refine Below.drew ?_) | (refine Below.drewN' ?_ _)))⟩
    | some k =>
      obtain ⟨gk, hkg, hrk, hgk⟩ := h.ptr_some hk
      rw [hkp] at hkg
      cases hkg
      dsimp only
      obtain ⟨h0, hp1, h02⟩ := DT.get_some hp
      obtain ⟨h0', hk1, h02'⟩ := DT.get_some hk
      obtain ⟨i, rfl⟩ : ∃ i : Nat, parent = i := ⟨parent.toNat, by omega⟩
      obtain ⟨j, rfl⟩ : ∃ j : Nat, kid = j := ⟨kid.toNat, by omega⟩
      simp only [Int.toNat_natCast] at hp1 hk1 hg hgk ⊢
      have hcp := hrp.1.cell
      have hck := hrk.1.cell
      have hjl := DT.at_lt hk1
      have hil := DT.at_lt hp1
      have HWI := Lib.hid (fun (W : World) (hb : Below w.heap.size w W) => within_any (h.keep hb) hW hp1 j (by omega))
      have hdd : T.depth (i : Int) = (T.depthF DT.fuel i : Int) := DT.depth_has hp
      have hhd : T.height (j : Int) = (T.heightF DT.fuel j : Int) := DT.height_has hk
      have hdl := hW.depth_le hp1
      have hhl := hW.height_dep hk1
      have hdep1 := hW.dep1
      have hdep2 := hW.dep2
      have HD := Lib.hid (fun (W : World) (hb : Below w.heap.size w W) => depth_any (h.keep hb) hW (i : Int))
      have HH := Lib.hid (fun (W : World) (hb : Below w.heap.size w W) => height_any (h.keep hb) hW (j : Int))
      have hgpl := hrp.1.lt
      have hgkl := hrk.1.lt
      have hkl := kids_len hW hp1
      have htree := h.tree.cell
      have htl := h.tree.lt
      obtain ⟨A, cap, hv, hcap, hmx, hA⟩ := hrp.2.2.form
      have HX := Lib.hid (And.intro h (And.intro hS (And.intro hW (And.intro hp1 (And.intro hk1 (And.intro hg (And.intro hgk (And.intro hrp (And.intro hrk hv)))))))))
      rw [hv] at hcp
      rw [hdd] at HD ⊢
      rw [hhd] at HH ⊢
      generalize hDD : T.depthF DT.fuel i = dd at *
      generalize hHH : T.heightF DT.fuel j = hh at *
      have hhl2 : hh ≤ 40 := by omega
      generalize hM : p.kids.length = m at *
      generalize hT : p.tag = tg at *
      generalize hU : DT.upI k.up = u at *
      generalize hWB : T.within i j = wb at *
      have HQ := Lib.hid (And.intro hM (And.intro hT (And.intro hU hWB)))
      have hml : ((m : Nat) : Int) ≤ 2000 := by omega
      clear h hS hW hp hk hp1 hk1 hg hgk hrp hrk hv hdd hhd hDD hHH hM hT hU hWB hpp hkp hkl h0 h0' h02 h02' hhl
      by_cases ht : tg = 0
      · have hd : (tg == 0) = true := by simp [ht]
        rw [if_pos ht]
        clear ht
        go_enter Try.func36, Try.ntmps36
        go_wp2_with (first | ((with_reducible refine (HGP.out _ (by repeat (first | exact Below.refl _ _ | assumption | (refine Below.setCell ?_ (by first | (simp; done) | (simp; omega) | omega) _) | (refine Below.alloc ?_ (by first | (simp; done) | (simp; omega) | omega) _) | (refine Below.drew ?_) | (refine Below.drewN' ?_ _)))).mono ?_); rintro e w' ⟨rfl, rfl⟩) | ((with_reducible refine (HGK.out _ (by repeat (first | exact Below.refl _ _ | assumption | (refine Below.setCell ?_ (by first | (simp; done) | (simp; omega) | omega) _) | (refine Below.alloc ?_ (by first | (simp; done) | (simp; omega) | omega) _) | (refine Below.drew ?_) | (refine Below.drewN' ?_ _)))).mono ?_); rintro e w' ⟨rfl, rfl⟩))
        go_ret
        exact ⟨rfl, HM0.out _ (by repeat (first | exact Below.refl _ _ | assumption | (refine Below.setCell ?_ (by first | (simp; done) | (simp; omega) | omega) _) | (refine Below.alloc ?_ (by first | (simp; done) | (simp; omega) | omega) _) | (refine Below.drew ?_) | (refine Below.drewN' ?_ _)))⟩
      have hd : (tg == 0) = false := by simp [ht]
      rw [if_neg ht]
      clear ht
      by_cases hbad : (j : Int) = 0 ∨ 0 ≤ u ∨ pos < 0 ∨ (m : Int) < pos
      · rw [if_pos hbad]
        have hc : ((j : Int) == 0) = true ∨ (((j : Int) == 0) = false ∧ decide (0 ≤ u) = true) ∨ (((j : Int) == 0) = false ∧ decide (0 ≤ u) = false ∧ decide (pos < 0) = true) ∨ (((j : Int) == 0) = false ∧ decide (0 ≤ u) = false ∧ decide (pos < 0) = false ∧ decide ((m : Int) < pos) = true) := by
          simp only [beq_iff_eq, beq_eq_false_iff_ne, decide_eq_true_eq, decide_eq_false_iff_not]
          omega
        clear hbad
        rcases hc with c1 | ⟨c1, c2⟩ | ⟨c1, c2, c3⟩ | ⟨c1, c2, c3, c4⟩
        all_goals
          go_enter Try.func36, Try.ntmps36
          go_wp2_with (first | ((with_reducible refine (HGP.out _ (by repeat (first | exact Below.refl _ _ | assumption | (refine Below.setCell ?_ (by first | (simp; done) | (simp; omega) | omega) _) | (refine Below.alloc ?_ (by first | (simp; done) | (simp; omega) | omega) _) | (refine Below.drew ?_) | (refine Below.drewN' ?_ _)))).mono ?_); rintro e w' ⟨rfl, rfl⟩) | ((with_reducible refine (HGK.out _ (by repeat (first | exact Below.refl _ _ | assumption | (refine Below.setCell ?_ (by first | (simp; done) | (simp; omega) | omega) _) | (refine Below.alloc ?_ (by first | (simp; done) | (simp; omega) | omega) _) | (refine Below.drew ?_) | (refine Below.drewN' ?_ _)))).mono ?_); rintro e w' ⟨rfl, rfl⟩))
          go_ret
          exact ⟨rfl, HM0.out _ (by repeat (first | exact Below.refl _ _ | assumption | (refine Below.setCell ?_ (by first | (simp; done) | (simp; omega) | omega) _) | (refine Below.alloc ?_ (by first | (simp; done) | (simp; omega) | omega) _) | (refine Below.drew ?_) | (refine Below.drewN' ?_ _)))⟩
      rw [if_neg hbad]
      have hc : ((j : Int) == 0) = false ∧ decide (0 ≤ u) = false ∧ decide (pos < 0) = false ∧ decide ((m : Int) < pos) = false := by
        simp only [beq_eq_false_iff_ne, decide_eq_false_iff_not]
        omega
      obtain ⟨c1, c2, c3, c4⟩ := hc
      simp only [not_or] at hbad
      have hj0 : j ≠ 0 := by omega
      obtain ⟨q, rfl⟩ : ∃ q : Nat, pos = q := ⟨pos.toNat, by omega⟩
      have hqm : q ≤ m := by omega
      clear hbad
      cases wb with
      | true =>
        rw [if_pos rfl]
        go_enter Try.func36, Try.ntmps36
        go_wp2_with (first | ((with_reducible refine (HGP.out _ (by repeat (first | exact Below.refl _ _ | assumption | (refine Below.setCell ?_ (by first | (simp; done) | (simp; omega) | omega) _) | (refine Below.alloc ?_ (by first | (simp; done) | (simp; omega) | omega) _) | (refine Below.drew ?_) | (refine Below.drewN' ?_ _)))).mono ?_); rintro e w' ⟨rfl, rfl⟩) | ((with_reducible refine (HGK.out _ (by repeat (first | exact Below.refl _ _ | assumption | (refine Below.setCell ?_ (by first | (simp; done) | (simp; omega) | omega) _) | (refine Below.alloc ?_ (by first | (simp; done) | (simp; omega) | omega) _) | (refine Below.drew ?_) | (refine Below.drewN' ?_ _)))).mono ?_); rintro e w' ⟨rfl, rfl⟩) | ((with_reducible refine (HWI.out _ (by repeat (first | exact Below.refl _ _ | assumption | (refine Below.setCell ?_ (by first | (simp; done) | (simp; omega) | omega) _) | (refine Below.alloc ?_ (by first | (simp; done) | (simp; omega) | omega) _) | (refine Below.drew ?_) | (refine Below.drewN' ?_ _)))).mono ?_); rintro e w' ⟨rfl, rfl⟩))
        go_ret
        exact ⟨rfl, HM0.out _ (by repeat (first | exact Below.refl _ _ | assumption | (refine Below.setCell ?_ (by first | (simp; done) | (simp; omega) | omega) _) | (refine Below.alloc ?_ (by first | (simp; done) | (simp; omega) | omega) _) | (refine Below.drew ?_) | (refine Below.drewN' ?_ _)))⟩
      | false =>
        rw [if_neg (by simp)]
        by_cases hdp : T.dep < (dd : Int) + 1 + hh
        · rw [if_pos hdp]
          have c5 : decide (T.dep < (dd : Int) + 1 + hh) = true := by simp [hdp]
          clear hdp
          go_enter Try.func36, Try.ntmps36
          go_wp2_with (first | ((with_reducible refine (HGP.out _ (by repeat (first | exact Below.refl _ _ | assumption | (refine Below.setCell ?_ (by first | (simp; done) | (simp; omega) | omega) _) | (refine Below.alloc ?_ (by first | (simp; done) | (simp; omega) | omega) _) | (refine Below.drew ?_) | (refine Below.drewN' ?_ _)))).mono ?_); rintro e w' ⟨rfl, rfl⟩) | ((with_reducible refine (HGK.out _ (by repeat (first | exact Below.refl _ _ | assumption | (refine Below.setCell ?_ (by first | (simp; done) | (simp; omega) | omega) _) | (refine Below.alloc ?_ (by first | (simp; done) | (simp; omega) | omega) _) | (refine Below.drew ?_) | (refine Below.drewN' ?_ _)))).mono ?_); rintro e w' ⟨rfl, rfl⟩) | ((with_reducible refine (HWI.out _ (by repeat (first | exact Below.refl _ _ | assumption | (refine Below.setCell ?_ (by first | (simp; done) | (simp; omega) | omega) _) | (refine Below.alloc ?_ (by first | (simp; done) | (simp; omega) | omega) _) | (refine Below.drew ?_) | (refine Below.drewN' ?_ _)))).mono ?_); rintro e w' ⟨rfl, rfl⟩))
          go_quiet (first | exact quiet_eq (HD.out _ (by repeat (first | exact Below.refl _ _ | assumption | (refine Below.setCell ?_ (by first | (simp; done) | (simp; omega) | omega) _) | (refine Below.alloc ?_ (by first | (simp; done) | (simp; omega) | omega) _) | (refine Below.drew ?_) | (refine Below.drewN' ?_ _)))) | exact quiet_eq (HH.out _ (by repeat (first | exact Below.refl _ _ | assumption | (refine Below.setCell ?_ (by first | (simp; done) | (simp; omega) | omega) _) | (refine Below.alloc ?_ (by first | (simp; done) | (simp; omega) | omega) _) | (refine Below.drew ?_) | (refine Below.drewN' ?_ _)))))
          go_wp2_with fail
          go_ret
          exact ⟨rfl, HM0.out _ (by repeat (first | exact Below.refl _ _ | assumption | (refine Below.setCell ?_ (by first | (simp; done) | (simp; omega) | omega) _) | (refine Below.alloc ?_ (by first | (simp; done) | (simp; omega) | omega) _) | (refine Below.drew ?_) | (refine Below.drewN' ?_ _)))⟩
        rw [if_neg hdp]
        have c5 : decide (T.dep < (dd : Int) + 1 + hh) = false := by simp; omega
        clear hdp
        have hij : i ≠ j := by
          intro e
          have h1 := HQ.out.2.2.2
          rw [e, HX.out.2.2.1.within_step HX.out.2.2.2.2.1] at h1
          simp at h1
        have hne : gk.b ≠ g.b := by
          intro e
          exact HX.out.1.node_apart HX.out.2.2.2.2.2.1 HX.out.2.2.2.2.2.2.1 hij g.b (by simp [NG.blocks]) (by rw [← e]; simp [NG.blocks])
        have hne2 : g.b ≠ gk.b := fun e => hne e.symm
        have hkvg : g.kv.ownBlock ≠ some g.b := (NG.b_ne (HX.out.1.node_nodup HX.out.2.2.2.2.2.1)).2.1
        have hkvk : g.kv.ownBlock ≠ some gk.b := fun e => HX.out.1.node_apart HX.out.2.2.2.2.2.1 HX.out.2.2.2.2.2.2.1 hij gk.b (by simp [NG.blocks, e]) (by simp [NG.blocks])
        have hkvl : ∀ b, g.kv.ownBlock = some b → b < w.heap.size := fun b hb => HX.out.1.lt b (mem_repBlocks_node HX.out.2.2.2.2.2.1 (by simp [NG.blocks, hb]))
        have HI : Hid (∀ (W : World) (vb : Nat), Below w.heap.size w W → At W vb 3 #[I (j : Int)] → w.heap.size ≤ vb → Calls Try.prog 116 #[.slice A m cap, .int .i64 q, .slice (some ⟨vb, 0, none⟩) 1 1] W fun e w2 =>
            ∃ (A' : Option Addr) (cap' : Nat), e = .returned (.slice A' (m + 1) cap') ∧ Row w2 3 1 (.slice A' (m + 1) cap') (m + 1) (kidCells (p.kids.take q ++ (j :: p.kids.drop q))) ∧ Only (fun b => g.kv.ownBlock = some b) W w2 ∧ (∀ b, (Value.slice A' (m + 1) cap').ownBlock = some b → g.kv.ownBlock = some b ∨ W.heap.size ≤ b) ∧
              At w2 g.b 139 #[I tg, g.av, .string p.text, .slice A m cap, I (DT.upI p.up)] ∧ At w2 gk.b 139 #[I k.tag, gk.av, .string k.text, gk.kv, I u]) := by
          intro W vb hb hv hvb
          have hrow := HX.out.2.2.2.2.2.2.2.1.2.2
          rw [HQ.out.1, kidCells_map] at hrow
          have h1 := insert_any (x := (j : Int)) (hrow.keep hb) (by omega) hqm hv (fun e => by have := hkvl _ e; omega)
          rw [HX.out.2.2.2.2.2.2.2.2.2] at h1
          refine h1.mono ?_
          rintro e w2 ⟨v', rfl, hr, hO, hn⟩
          obtain ⟨A', cap', rfl, _⟩ := hr.form
          have hz := hb.size
          refine ⟨A', cap', rfl, ?_, ?_, ?_, ?_, ?_⟩
          · have e1 : kidCells (p.kids.take q ++ (j :: p.kids.drop q)) = ((p.kids.map fun (k : Nat) => (k : Int)).map (Value.int .i64)).take q ++ (I (j : Int) :: ((p.kids.map fun (k : Nat) => (k : Int)).map (Value.int .i64)).drop q) := by
              rw [← kidCells_map]; simp [kidCells, List.map_take, List.map_drop]
            rw [e1]; exact hr
          · rw [HX.out.2.2.2.2.2.2.2.2.2]; exact hO
          · rw [HX.out.2.2.2.2.2.2.2.2.2]; exact hn
          · have h2 := HX.out.2.2.2.2.2.2.2.1.1.keep hb
            rw [HQ.out.2.1, HX.out.2.2.2.2.2.2.2.2.2] at h2
            exact (hO.block g.b (by omega) (by rw [← HX.out.2.2.2.2.2.2.2.2.2]; exact hkvg)).trans h2
          · have h2 := HX.out.2.2.2.2.2.2.2.2.1.1.keep hb
            rw [HQ.out.2.2.1] at h2
            exact (hO.block gk.b (by omega) (by rw [← HX.out.2.2.2.2.2.2.2.2.2]; exact hkvk)).trans h2
        have Hkv := Lib.hid (And.intro hkvg (And.intro hkvk (And.intro hkvl hij)))
        clear hkvg hkvk hkvl hij
        go_enter Try.func36, Try.ntmps36
        go_wp2_with (first | ((with_reducible refine (HGP.out _ (by repeat (first | exact Below.refl _ _ | assumption | (refine Below.setCell ?_ (by first | (simp; done) | (simp; omega) | omega) _) | (refine Below.alloc ?_ (by first | (simp; done) | (simp; omega) | omega) _) | (refine Below.drew ?_) | (refine Below.drewN' ?_ _)))).mono ?_); rintro e w' ⟨rfl, rfl⟩) | ((with_reducible refine (HGK.out _ (by repeat (first | exact Below.refl _ _ | assumption | (refine Below.setCell ?_ (by first | (simp; done) | (simp; omega) | omega) _) | (refine Below.alloc ?_ (by first | (simp; done) | (simp; omega) | omega) _) | (refine Below.drew ?_) | (refine Below.drewN' ?_ _)))).mono ?_); rintro e w' ⟨rfl, rfl⟩) | ((with_reducible refine (HWI.out _ (by repeat (first | exact Below.refl _ _ | assumption | (refine Below.setCell ?_ (by first | (simp; done) | (simp; omega) | omega) _) | (refine Below.alloc ?_ (by first | (simp; done) | (simp; omega) | omega) _) | (refine Below.drew ?_) | (refine Below.drewN' ?_ _)))).mono ?_); rintro e w' ⟨rfl, rfl⟩))
        go_quiet (first | exact quiet_eq (HD.out _ (by repeat (first | exact Below.refl _ _ | assumption | (refine Below.setCell ?_ (by first | (simp; done) | (simp; omega) | omega) _) | (refine Below.alloc ?_ (by first | (simp; done) | (simp; omega) | omega) _) | (refine Below.drew ?_) | (refine Below.drewN' ?_ _)))) | exact quiet_eq (HH.out _ (by repeat (first | exact Below.refl _ _ | assumption | (refine Below.setCell ?_ (by first | (simp; done) | (simp; omega) | omega) _) | (refine Below.alloc ?_ (by first | (simp; done) | (simp; omega) | omega) _) | (refine Below.drew ?_) | (refine Below.drewN' ?_ _)))))
        generalize hw1 : w.drewN nq = w1
        have hb1 : Below w.heap.size w w1 := by rw [← hw1]; exact Below.drewN' (Below.refl _ _) _
        obtain ⟨hc1, hf1⟩ := bcell hb1
        have hz1 := hb1.size
        have HB1 := Lib.hid hb1
        clear hw1 hb1
        go_wp2_with ((with_reducible refine (HI.out _ _ ((((Below.refl w.heap.size w).trans HB1.out).alloc hz1 _)) (At.fresh _ _ _ rfl) hz1).mono ?_); rintro e w2 ⟨A', cap', rfl, hrow, hO, hnew, ha1, ha2⟩; have hac1 := ha1.cell; have haf1 := ha1.frozen; have hac2 := ha2.cell; have haf2 := ha2.frozen; have HR := Lib.hid (And.intro hrow (And.intro hO hnew)); clear hrow hO hnew ha1 ha2)
        go_ret
        refine ⟨rfl, ?_⟩
        have hlen : (p.kids.take q ++ (j :: p.kids.drop q)).length = m + 1 := by rw [List.length_append, List.length_cons, List.length_take, List.length_drop, HQ.out.1]; omega
        have hrow := HR.out.1
        rw [← hlen] at hrow
        exact Mut.linked HX.out.1 HX.out.2.1 HX.out.2.2.2.1 HX.out.2.2.2.2.2.1 HX.out.2.2.2.2.2.2.2.1 HX.out.2.2.2.2.1 HX.out.2.2.2.2.2.2.1 HX.out.2.2.2.2.2.2.2.2.1 Hkv.out.2.2.2 (HB1.out.alloc hz1 _) hrow HR.out.2.1 (by rw [hlen]; exact HR.out.2.2) (by rw [hlen]; rfl)
end
end Go.Proofs.Ytnnjlpkjpbbklaa
