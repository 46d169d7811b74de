/-
  Drop of package dom. Conditions: the tree lies in memory and is sound.
-/
import Derived.Test.YtnnjlpkjpbbklaaDomRem
import Derived.Test.YtnnjlpkjpbbklaaDomLawQ
import Derived.Laws.EntriesVeiled
set_option linter.unusedVariables false
set_option linter.unusedSimpArgs false
namespace Go.Proofs.Ytnnjlpkjpbbklaa
open Go.RowKit

namespace DT
variable {T : DT}
/-- Is a there, and within i? -/
def inB (T : DT) (i a : Nat) : Bool := (T.at_ a).isSome && T.within a i
theorem WF.inB_iff (hW : T.WF) {i a : Nat} : T.inB i a = true ↔ (∃ n, T.at_ a = some n) ∧ Anc T a i := by
  unfold inB
  cases ha : T.at_ a with
  | none => simp
  | some n => simp [hW.within_anc ha]
theorem WF.anc_kids (hW : T.WF) {i a : Nat} {n m : Nd} (hi : T.at_ i = some n) (ha : T.at_ a = some m) : Anc T a i ↔ a = i ∨ ∃ k ∈ n.kids, Anc T a k := by
  constructor
  · intro h
    induction h generalizing m with
    | refl => exact .inl rfl
    | @step a p o q ha' hu h ih =>
      obtain ⟨mp, hmp, hk⟩ := hW.par _ _ _ ha' hu
      rcases ih hi hmp with e | ⟨k, hk', hx⟩
      · subst e
        rw [hi] at hmp; cases hmp
        exact .inr ⟨a, hk, .refl _⟩
      · exact .inr ⟨k, hk', .step ha' hu hx⟩
  · rintro (e | ⟨k, hk, hx⟩)
    · subst e; exact .refl _
    · obtain ⟨mk, hmk, hu⟩ := hW.kid _ _ _ hi hk
      exact hx.trans (.step hmk hu (.refl _))
/-- What is dropped behind j kids. -/
def gone (T : DT) (X : Nat → Bool) (l : List Nat) (a : Nat) : Bool := X a || l.any fun k => T.inB k a
theorem gone_nil (X : Nat → Bool) : T.gone X [] = X := by funext a; simp [gone]
theorem gone_snoc (X : Nat → Bool) (l : List Nat) (k : Nat) : T.gone X (l ++ [k]) = fun a => T.gone X l a || T.inB k a := by
  funext a; simp [gone, Bool.or_assoc]
theorem WF.put_gone (hW : T.WF) {i : Nat} {n : Nd} (hi : T.at_ i = some n) (X : Nat → Bool) : (T.minus (T.gone X n.kids)).put i none = T.minus fun a => X a || T.inB i a := by
  refine ext_at rfl rfl (by rw [put_nodes_length, minus_length, minus_length]) fun a => ?_
  rw [at_minus]
  by_cases e : a = i
  · subst e
    rw [at_put' _ a a _ (by rw [minus_length]; exact at_lt hi), if_pos rfl]
    have : T.inB a a = true := hW.inB_iff.2 ⟨⟨n, hi⟩, .refl _⟩
    simp [this]
  · rw [at_put_ne _ e, at_minus]
    cases ha : T.at_ a with
    | none => simp
    | some m =>
      have h1 : T.inB i a = n.kids.any fun k => T.inB k a := by
        rw [Bool.eq_iff_iff, hW.inB_iff, List.any_eq_true]
        constructor
        · rintro ⟨_, h⟩
          rcases (hW.anc_kids hi ha).1 h with e' | ⟨k, hk, hx⟩
          · exact absurd e' e
          · exact ⟨k, hk, hW.inB_iff.2 ⟨⟨m, ha⟩, hx⟩⟩
        · rintro ⟨k, hk, hx⟩
          exact ⟨⟨m, ha⟩, (hW.anc_kids hi ha).2 (.inr ⟨k, hk, (hW.inB_iff.1 hx).2⟩)⟩
      rw [gone, h1]
end DT

section
variable {w : World} {tb : Nat} {T : DT} {nv : Value} {G : List (Option NG)}

/-- The row of nodes, opened at one that is there. -/
theorem Rep.place_open (h : Rep w tb T nv G) {i : Nat} {n : Nd} (hi : T.at_ i = some n) : ∃ g cap gb, nv = .slice (some ⟨g, 0, none⟩) T.nodes.length cap ∧ T.nodes.length ≤ cap ∧ cap ≤ maxLen ∧ i < T.nodes.length ∧
    w.cell? ⟨g, i, none⟩ = some (.pointer (some ⟨gb.b, 0, none⟩)) ∧ NodeRep w gb n ∧ G[i]? = some (some gb) := by
  have hil := DT.at_lt hi
  obtain ⟨g, cap, hv, hc, hm, hg, hcell⟩ := h.row.open_ (by rw [h.len]; omega)
  rw [h.len] at hv hc
  obtain ⟨gb, hgb, hr⟩ := h.node i n hi
  refine ⟨g, cap, gb, hv, hc, hm, hil, ?_, hr, hgb⟩
  rw [hcell i (by rw [h.len]; exact hil), List.getElem?_map, hgb]
  rfl

/-- A node is none any more. -/
theorem Rep.clear (h : Rep w tb T nv G) {i : Nat} {n : Nd} (hi : T.at_ i = some n) {g m cap : Nat} (hv : nv = .slice (some ⟨g, 0, none⟩) m cap) {c : Int} (hc : c = (T.count : Int) - 1) :
    Rep ((w.setCell ⟨g, i, none⟩ (.pointer none)).setCell ⟨tb, 2, none⟩ (I c)) tb (T.put i none) nv (G.set i none) ∧ (∀ b ∈ repBlocks tb nv (G.set i none), b ∈ repBlocks tb nv G) ∧ Only (fun b => b = tb ∨ nv.ownBlock = some b) w ((w.setCell ⟨g, i, none⟩ (.pointer none)).setCell ⟨tb, 2, none⟩ (I c)) := by
  have hil := DT.at_lt hi
  have hgo : nv.ownBlock = some g := by rw [hv]; rfl
  have hgne := h.row_ne hgo
  have hcount := T.count_put i none hil
  rw [hi] at hcount
  simp at hcount
  have hmv : m = G.length := by
    obtain ⟨g', cap', hv', _⟩ := h.row.open_ (by rw [h.len]; omega)
    rw [hv] at hv'; cases hv'; rfl
  subst hmv
  refine ⟨h.setPlace hil ?_ ?_ (by intro n hn; cases hn) (fun _ => rfl) ?_ (by simp [ngBlocks]) (by intro b hb; simp [ngBlocks] at hb), ?_, ?_⟩
  · exact At.set' (h.tree.far (p := ⟨g, i, none⟩) (fun e => hgne e.symm) _) (by rw [hc, ← hcount]; simp)
  · rw [List.map_set]
    refine Row.setAt h.row hv (by rw [h.len]; exact hil) ?_
    exact Below.heap_setCell _ _ _ _ hgne
  · intro b hb h1 h2
    rw [Below.heap_setCell _ _ _ _ h1, Below.heap_setCell _ _ _ _ (fun e => h2 (by rw [hgo]; exact congrArg some e.symm))]
  · exact Rep.set_blocks (fun b hb => hb) (fun b hb => by simp [ngBlocks] at hb)
  · refine ⟨rfl, rfl, rfl, by simp only [World.size_setCell]; exact Nat.le_refl _, fun b _ hn => ?_⟩
    simp only [not_or] at hn
    rw [Below.heap_setCell _ _ _ _ hn.1, Below.heap_setCell _ _ _ _ (fun e => hn.2 (by rw [hgo]; exact congrArg some e.symm))]

/-- What Drop's own function leaves. -/
def DropRet (T0 : DT) (tb : Nat) (nv : Value) (G : List (Option NG)) (Y : Nat → Bool) (w w' : World) : Prop := ∃ G', Rep w' tb (T0.minus Y) nv G' ∧ (∀ b ∈ repBlocks tb nv G', b ∈ repBlocks tb nv G) ∧ Only (fun b => b = tb ∨ nv.ownBlock = some b) w w'

theorem DropRet.then_ {T0 : DT} {Y Y' : Nat → Bool} {w1 w2 w3 : World} (h : DropRet T0 tb nv G Y w1 w2) (k : ∀ G', Rep w2 tb (T0.minus Y) nv G' → DropRet T0 tb nv G' Y' w2 w3) : DropRet T0 tb nv G Y' w1 w3 := by
  obtain ⟨G1, hr, hs, ho⟩ := h
  obtain ⟨G2, hr2, hs2, ho2⟩ := k G1 hr
  exact ⟨G2, hr2, fun b hb => hs b (hs2 b hb), ho.trans ho2 fun i _ hi => hi⟩

set_option maxHeartbeats 1000000 in
theorem drop1_at {T0 : DT} (hW : T0.WF) {tc dc : Nat} (htc : tc ≠ tb) (hdc : dc ≠ tb) (hrt : nv.ownBlock ≠ some tc) (hrd : nv.ownBlock ≠ some dc) : ∀ (f : Nat) (i : Nat) (n : Nd), T0.at_ i = some n → 41 ≤ f + T0.depthF DT.fuel i → ∀ (w : World) (X : Nat → Bool) (G : List (Option NG)),
    Rep w tb (T0.minus X) nv G → (∀ a, X a = true → ¬ DT.Anc T0 a i) → At w tc 36 #[.pointer (some ⟨tb, 0, none⟩)] → At w dc 149 #[.func (.func 120) #[] #[.pointer (some ⟨tc, 0, none⟩), .pointer (some ⟨dc, 0, none⟩)]] →
    Calls Try.prog 120 #[I (i : Int), .pointer (some ⟨tc, 0, none⟩), .pointer (some ⟨dc, 0, none⟩)] w fun e w' => e = .returned (.tuple #[]) ∧ DropRet T0 tb nv G (fun a => X a || T0.inB i a) w w' := by
  intro f
  induction f with
  | zero => intro i n hi hf; have := hW.depth_le hi; omega
  | succ f ih =>
    intro i n hi hf w X G h hX hA hD
    have hXi : X i = false := by
      cases hx : X i with
      | false => rfl
      | true => exact absurd (.refl _) (hX i hx)
    have hi' : (T0.minus X).at_ i = some n := by rw [DT.at_minus, hXi]; exact hi
    obtain ⟨g, cap, gb, hv, hcap, hmax, hil, hcell, hr, hg⟩ := h.place_open hi'
    have htree := h.tree.cell
    have hkl : n.kids.length ≤ T0.nodes.length := kids_len hW hi
    have hl := hW.nodes_le
    have hlen : (T0.minus X).nodes.length = T0.nodes.length := DT.minus_length X
    rw [hlen] at hv hcap hil
    obtain ⟨KA, kcap, hkv, hkcap, hkmx, hKA⟩ := hr.2.2.form
    have hcn := hr.1.cell
    have hAc := hA.cell
    have hDc := hD.cell
    have hgo : nv.ownBlock = some g := by rw [hv]; rfl
    have hgt := h.row_ne hgo
    have hnode := h.node_ne hg
    have hK : Hid (∀ (j k : Nat) (wr : World), Only (fun b => b = tb ∨ nv.ownBlock = some b) w wr → n.kids[j]? = some k → ∃ a, KA = some ⟨a, 0, none⟩ ∧ wr.cell? ⟨a, j, none⟩ = some (.int .i64 (k : Int))) := by
      intro j k wr ho hjk
      obtain ⟨hj, e⟩ := List.getElem?_eq_some_iff.1 hjk
      obtain ⟨ga, cap', hv', _, _, hgl', hcell⟩ := hr.2.2.open_ (by omega)
      have hkb : gb.kv.ownBlock = some ga := by rw [hv']; rfl
      have hne := hnode ga (by simp [NG.blocks, hkb])
      rw [hkv] at hv'
      injection hv' with h1 h2 h3
      refine ⟨ga, h1, ?_⟩
      rw [World.cell?_of_block (a := ⟨ga, j, none⟩) (ho.block ga hgl' (by simp only [not_or]; exact hne)), hcell j hj, kidCells_get _ _ hj, e]
    have hS : Hid (∀ wr, Only (fun b => b = tb ∨ nv.ownBlock = some b) w wr → At wr tc 36 #[.pointer (some ⟨tb, 0, none⟩)] ∧ At wr dc 149 #[.func (.func 120) #[] #[.pointer (some ⟨tc, 0, none⟩), .pointer (some ⟨dc, 0, none⟩)]]) := by
      intro wr ho
      refine ⟨(ho.block tc hA.lt ?_).trans hA, (ho.block dc hD.lt ?_).trans hD⟩
      · simp only [not_or]; exact ⟨htc, hrt⟩
      · simp only [not_or]; exact ⟨hdc, hrd⟩
    have IH : Hid (∀ (l1 : List Nat) (k : Nat) (l2 : List Nat), n.kids = l1 ++ k :: l2 → ∀ (wr : World) (G : List (Option NG)), Rep wr tb (T0.minus (T0.gone X l1)) nv G → Only (fun b => b = tb ∨ nv.ownBlock = some b) w wr →
        Calls Try.prog 120 #[I (k : Int), .pointer (some ⟨tc, 0, none⟩), .pointer (some ⟨dc, 0, none⟩)] wr fun e w' => e = .returned (.tuple #[]) ∧ DropRet T0 tb nv G (T0.gone X (l1 ++ [k])) wr w') := by
      intro l1 k l2 hks wr G hr ho
      have hkm : k ∈ n.kids := by rw [hks]; simp
      obtain ⟨m, hm, hu, hd⟩ := hW.kid_depth hi hkm
      have hnd := hW.nodup i n hi
      rw [hks] at hnd
      rw [DT.gone_snoc]
      refine ih k m hm (by omega) wr _ G hr (fun a ha hx => ?_) (hS.out wr ho).1 (hS.out wr ho).2
      unfold DT.gone at ha
      rw [Bool.or_eq_true, List.any_eq_true] at ha
      rcases ha with ha | ⟨k', hk', ha⟩
      · exact hX a ha (hx.trans (.step hm hu (.refl _)))
      · obtain ⟨⟨ma, hma⟩, hx'⟩ := hW.inB_iff.1 ha
        -- a within two kids of one node
        have hk'm : k' ∈ n.kids := by rw [hks]; simp [hk']
        obtain ⟨m', hm', hu', hd'⟩ := hW.kid_depth hi hk'm
        have hne : k' ≠ k := fun e => by
          subst e
          exact (List.nodup_append.1 hnd).2.2 k' hk' k' (by simp) rfl
        have key : ∀ a b c, DT.Anc T0 a b → DT.Anc T0 a c → DT.Anc T0 b c ∨ DT.Anc T0 c b := by
          intro a b c h1
          induction h1 with
          | refl => intro h2; exact .inl h2
          | step hi hu h ih =>
            intro h2
            cases h2 with
            | refl => exact .inr (.step hi hu h)
            | step hi2 hu2 h2 => rw [hi] at hi2; cases hi2; rw [hu] at hu2; cases hu2; exact ih h2
        rcases key a k k' hx hx' with h1 | h1
        · rcases h1.step_inv hm hu with e | h2
          · exact hne e.symm
          · exact hW.no_loop hm' hu' h2
        · rcases h1.step_inv hm' hu' with e | h2
          · exact hne e
          · exact hW.no_loop hm hu h2
    have HX := Lib.hid (And.intro h (And.intro hi (And.intro hX hA)))
    have HW := Lib.hid hW
    rw [hkv] at hcn
    have hcn3 : w.cell? ⟨gb.b, 3, none⟩ = some (.slice KA n.kids.length kcap) := hcn 3
    have hm0 : Hid (n.kids.length = n.kids.length) := Lib.hid rfl
    obtain ⟨m, hm⟩ : ∃ m, m = n.kids.length := ⟨_, rfl⟩
    rw [← hm] at hcn3 hkl hkcap
    have HM := Lib.hid hm
    subst hv
    have hgl := h.row.lt g rfl
    have htl := h.tree.lt
    have hgc : g ≠ tc := fun e => hrt (by rw [e]; rfl)
    have hcg : tc ≠ g := fun e => hgc e.symm
    have htg : tb ≠ g := fun e => hgt e.symm
    have hNl : ((T0.nodes.length : Nat) : Int) ≤ 2000 := by omega
    have hml : ((m : Nat) : Int) ≤ 2000 := by omega
    have hil' : i < T0.nodes.length := hil
    generalize T0.nodes.length = N at *
    clear hm h hi hi' hX hA hD hr hg hkv hKA hlen hnode hcn ih hW hf
    go_enter Try.func120, Try.ntmps120
    go_wp2_with fail
    go_loopw [5, 17] (fun _ s17 wr => ∃ j : Nat, j ≤ m ∧ s17 = .int .i64 (j : Int) ∧ Hid (DropRet T0 tb (.slice (some ⟨g, 0, none⟩) N cap) G (T0.gone X (n.kids.take j)) w wr)) (fun _ s17 _ => m - (intOf s17).toNat)
    case atStart =>
      refine ⟨0, Nat.zero_le _, rfl, G, ?_, fun b hb => hb, Only.refl _ _⟩
      rw [List.take_zero, DT.gone_nil]
      exact HX.out.1
    case round =>
      obtain ⟨j, hj, rfl, hst⟩ := hrel
      obtain ⟨G', hr', hs', ho'⟩ := hst.out
      have hat := hS.out wr ho'
      have hA1 := hat.1.cell
      have hD1 := hat.2.cell
      have hzr := ho'.size
      have HST := Lib.hid (And.intro hr' (And.intro hs' ho'))
      have hT1 := hr'.tree.cell
      have hT2 := hr'.tree.frozen
      by_cases hlt : j < m
      · obtain ⟨k, hk⟩ : ∃ k, n.kids[j]? = some k := ⟨_, List.getElem?_eq_getElem (by have := HM.out; omega)⟩
        obtain ⟨a, rfl, hkc⟩ := hK.out j k wr ho' hk
        have hjl := (List.getElem?_eq_some_iff.1 hk).1
        have e1 : n.kids.take (j + 1) = n.kids.take j ++ [k] := by rw [List.take_add_one, hk]; rfl
        have e2 : n.kids = n.kids.take j ++ k :: n.kids.drop (j + 1) := by
          have h1 := List.take_append_drop j n.kids
          rw [List.drop_eq_getElem_cons hjl, (List.getElem?_eq_some_iff.1 hk).2] at h1
          exact h1.symm
        have HC := Lib.hid (IH.out _ k _ e2 wr G' hr' ho')
        have HE := Lib.hid e1
        clear e1 e2 hk hr' hs' ho' hst hat hjl
        go_wp2_with ((with_reducible refine HC.out.mono ?_); rintro e w2 ⟨rfl, hD⟩; have HDD := Lib.hid hD; clear hD)
        refine ⟨⟨j + 1, by omega, by go_num, ?_⟩, by simp [intOf]; omega⟩
        obtain ⟨G2, hr2, hs2, ho2⟩ := HDD.out
        exact ⟨G2, by rw [HE.out]; exact hr2, fun b hb => HST.out.2.1 b (hs2 b hb), HST.out.2.2.trans ho2 fun i _ hi => hi⟩
      · have hjm : j = m := by omega
        subst hjm
        have e1 : n.kids.take j = n.kids := List.take_of_length_le (by have := HM.out; omega)
        rw [e1] at hr' HST hst hT1
        have hgi : T0.gone X n.kids i = false := by
          unfold DT.gone
          rw [Bool.or_eq_false_iff]
          refine ⟨hXi, ?_⟩
          rw [List.any_eq_false]
          intro k hk hx
          obtain ⟨m', hm', hu'⟩ := HW.out.kid _ _ _ HX.out.2.1 hk
          exact HW.out.no_loop hm' hu' (HW.out.inB_iff.1 hx).2
        have hi2 : (T0.minus (T0.gone X n.kids)).at_ i = some n := by rw [DT.at_minus, hgi]; exact HX.out.2.1
        obtain ⟨g2, cap2, gb2, hv2, _, _, _, hcell2, _, hg2⟩ := hr'.place_open hi2
        have eg : g2 = g := by
          injection hv2 with h1 _ _
          injection h1 with h1
          injection h1 with h1 _ _
          exact h1.symm
        rw [eg] at hcell2
        clear hv2 eg
        have hrf := hr'.row.frozen_own rfl i
        have hcnt := (T0.minus (T0.gone X n.kids)).count_put i none (DT.at_lt hi2)
        rw [hi2] at hcnt
        simp at hcnt
        have hcl : (T0.minus (T0.gone X n.kids)).count ≤ 2000 := Nat.le_trans List.countP_le_length (by rw [DT.minus_length]; exact HW.out.nodes_le)
        have HC2 := Lib.hid (hr'.clear hi2 rfl (c := ((T0.minus (T0.gone X n.kids)).count : Int) - 1) rfl)
        have HP := Lib.hid (HW.out.put_gone HX.out.2.1 X)
        have hgl' := hr'.row.lt g rfl
        have htl' := hr'.tree.lt
        have hc1 : 1 ≤ (T0.minus (T0.gone X n.kids)).count := by omega
        generalize hcn : (T0.minus (T0.gone X n.kids)).count = cn at *
        have HCN := Lib.hid hcn
        clear hcn hcnt hi2 hgi e1 hr' hs' ho' hst hat hg2
        go_wp2_with fail
        have hC := HC2.out
        rw [HP.out] at hC
        go_end0
        exact ⟨rfl, _, hC.1, fun b hb => HST.out.2.1 b (hC.2.1 b hb), HST.out.2.2.trans hC.2.2 fun i _ hi => hi⟩

set_option maxHeartbeats 1000000 in
theorem dropNode_any (h : Rep w tb T nv G) {S : Nat → Prop} (hS : ∀ b ∈ repBlocks tb nv G, S b) (hW : T.WF) (id : Int) :
    Calls Try.prog 40 #[.pointer (some ⟨tb, 0, none⟩), I id] w fun e w' => e = .returned (I (T.drop id).1) ∧ Mut tb (T.drop id).2 S w w' := by
  have hl := hW.nodes_le
  have HM0 := Lib.hid (fun (W : World) (hW : Below w.heap.size w W) => Mut.of_below h hS hW)
  unfold DT.drop
  cases hn : T.get id with
  | none =>
    have HG := Lib.hid (fun (W : World) (hb : Below w.heap.size w W) => get_none (h.keep hb) hl hn)
    clear h hS hW hn
    go_enter Try.func40, Try.ntmps40
    go_wp2_with ((with_reducible refine (HG.out _ (by repeat (first | exact Below.refl _ _ | assumption | (refine Below.setCell ?_ (by first | (simp; done) | (simp; omega) | omega) _) | (refine Below.alloc ?_ (by first | (simp; done) | (simp; omega) | omega) _) | (refine Below.drew ?_) | (refine Below.drewN' ?_ _)))).mono ?_); rintro e w' ⟨rfl, rfl⟩)
    go_ret
    exact ⟨rfl, HM0.out _ (by repeat (first | exact Below.refl _ _ | assumption | (refine Below.setCell ?_ (by first | (simp; done) | (simp; omega) | omega) _) | (refine Below.alloc ?_ (by first | (simp; done) | (simp; omega) | omega) _) | (refine Below.drew ?_) | (refine Below.drewN' ?_ _)))⟩
  | some n =>
    dsimp only
    obtain ⟨p, hp, HG⟩ := get_ptr h hl id
    obtain ⟨g, hp', hr, hg⟩ := h.ptr_some hn
    rw [hp] at hp'
    cases hp'
    have HG := Lib.hid HG
    have hc := hr.1.cell
    have hgl := hr.1.lt
    obtain ⟨h0, h1, h2⟩ := DT.get_some hn
    obtain ⟨i, rfl⟩ : ∃ i : Nat, id = i := ⟨id.toNat, by omega⟩
    simp only [Int.toNat_natCast] at h1 ⊢
    have HD : Hid (∀ (W : World) (tc dc : Nat), Below w.heap.size w W → At W tc 36 #[.pointer (some ⟨tb, 0, none⟩)] → At W dc 149 #[.func (.func 120) #[] #[.pointer (some ⟨tc, 0, none⟩), .pointer (some ⟨dc, 0, none⟩)]] → w.heap.size ≤ tc → w.heap.size ≤ dc →
        Calls Try.prog 120 #[I (i : Int), .pointer (some ⟨tc, 0, none⟩), .pointer (some ⟨dc, 0, none⟩)] W fun e w' => e = .returned (.tuple #[]) ∧ Mut tb (T.dropped i) S w w') := by
      intro W tc dc hb hA hB htc hdc
      have hz := hb.size
      have hrl := h.lt
      have htl := hrl tb (by simp [repBlocks])
      have hR := h.keep hb
      have e0 : T.minus (fun _ => false) = T := DT.ext_at rfl rfl (DT.minus_length _) fun j => by rw [DT.at_minus]; rfl
      rw [← e0] at hR
      have hrow : ∀ b, nv.ownBlock = some b → b < w.heap.size := fun b hb => hrl b (by simp [repBlocks, hb])
      refine (drop1_at hW (tb := tb) (nv := nv) (by omega) (by omega) (fun e => by have := hrow _ e; omega) (fun e => by have := hrow _ e; omega) 41 i n h1 (by omega) W (fun _ => false) G hR (fun a ha => by cases ha) hA hB).mono ?_
      rintro e w' ⟨he, G', hr', hs', ho'⟩
      have e1 : T.minus (fun a => false || T.inB i a) = T.dropped i := by
        unfold DT.dropped; congr 1
      rw [e1] at hr'
      refine ⟨he, ⟨nv, G', hr', fun b hb1 => .inl (hS b (hs' b hb1))⟩, (Only.of_below (S := S) hb).trans (ho'.mono (S' := S) fun b hb1 => ?_) fun i _ hi => hi⟩
      rcases hb1 with e | e
      · rw [e]; exact hS _ (by simp [repBlocks])
      · exact hS _ (by simp [repBlocks, e])
    generalize hU : DT.upI n.up = u at *
    clear h hS hW hn hr hg hp h1 h2 h0 hU
    by_cases hbad : (i : Int) = 0 ∨ 0 ≤ u
    · rw [if_pos hbad]
      have hc : ((i : Int) == 0) = true ∨ (((i : Int) == 0) = false ∧ decide (0 ≤ u) = true) := by
        simp only [beq_iff_eq, beq_eq_false_iff_ne, decide_eq_true_eq]
        omega
      clear hbad
      rcases hc with c1 | ⟨c1, c2⟩
      all_goals
        go_enter Try.func40, Try.ntmps40
        go_wp2_with ((with_reducible refine (HG.out _ (by repeat (first | exact Below.refl _ _ | assumption | (refine Below.setCell ?_ (by first | (simp; done) | (simp; omega) | omega) _) | (refine Below.alloc ?_ (by first | (simp; done) | (simp; omega) | omega) _) | (refine Below.drew ?_) | (refine Below.drewN' ?_ _)))).mono ?_); rintro e w' ⟨rfl, rfl⟩)
        go_ret
        exact ⟨rfl, HM0.out _ (by repeat (first | exact Below.refl _ _ | assumption | (refine Below.setCell ?_ (by first | (simp; done) | (simp; omega) | omega) _) | (refine Below.alloc ?_ (by first | (simp; done) | (simp; omega) | omega) _) | (refine Below.drew ?_) | (refine Below.drewN' ?_ _)))⟩
    · rw [if_neg hbad]
      have c1 : ((i : Int) == 0) = false := by simp; omega
      have c2 : decide (0 ≤ u) = false := by simp; omega
      clear hbad
      go_enter Try.func40, Try.ntmps40
      go_wp2_with (first | ((with_reducible refine (HG.out _ (by repeat (first | exact Below.refl _ _ | assumption | (refine Below.setCell ?_ (by first | (simp; done) | (simp; omega) | omega) _) | (refine Below.alloc ?_ (by first | (simp; done) | (simp; omega) | omega) _) | (refine Below.drew ?_) | (refine Below.drewN' ?_ _)))).mono ?_); rintro e w' ⟨rfl, rfl⟩) | ((with_reducible refine (HD.out _ _ _ (by repeat (first | exact Below.refl _ _ | assumption | (refine Below.setCell ?_ (by first | (simp; done) | (simp; omega) | omega) _) | (refine Below.alloc ?_ (by first | (simp; done) | (simp; omega) | omega) _) | (refine Below.drew ?_) | (refine Below.drewN' ?_ _))) (by (repeat' (first | (with_reducible assumption) | (with_reducible refine unhid ?_; with_reducible assumption) | (with_reducible refine At.fresh _ _ _ (by first | (simp; done) | (simp; omega) | omega)) | (with_reducible apply At.set') | (with_reducible apply At.far) | (with_reducible apply At.alloc) | (with_reducible apply At.drew) | (with_reducible apply At.drewN) | exact (rfl : Array.setIfInBounds _ _ _ = _) | (refine Ne.symm ?_; simp; done) | (show _ ≠ _; simp; done) | (show _ ≠ _; simp; omega) | (show _ ≠ _; omega))); (first | done | fail)) (by (repeat' (first | (with_reducible assumption) | (with_reducible refine unhid ?_; with_reducible assumption) | (with_reducible refine At.fresh _ _ _ (by first | (simp; done) | (simp; omega) | omega)) | (with_reducible apply At.set') | (with_reducible apply At.far) | (with_reducible apply At.alloc) | (with_reducible apply At.drew) | (with_reducible apply At.drewN) | exact (rfl : Array.setIfInBounds _ _ _ = _) | (refine Ne.symm ?_; simp; done) | (show _ ≠ _; simp; done) | (show _ ≠ _; simp; omega) | (show _ ≠ _; omega))); (first | done | fail)) (by first | (simp; done) | (simp; omega) | omega) (by first | (simp; done) | (simp; omega) | omega)).mono ?_); rintro e w2 ⟨rfl, hM⟩; have HMM := Lib.hid hM; clear hM))
      go_ret
      exact ⟨rfl, HMM.out⟩
end
end Go.Proofs.Ytnnjlpkjpbbklaa
