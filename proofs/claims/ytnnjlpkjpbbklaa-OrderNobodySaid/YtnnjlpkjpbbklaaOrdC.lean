/-
  Package order walked: All (a range over a function). Conditions: a tree that is told of.
-/
import Derived.RangeFuncBox
import Derived.RangeFuncWrites
import Derived.RangeFuncLeaves
import Derived.Shelf.Abstract
import Derived.OwnWalkIn
import Derived.TacticsInMore
import Derived.LoopNIn
import Derived.LoopIn
import Derived.Maps.AppendAt
import Derived.Test.YtnnjlpkjpbbklaaOrdA
import Derived.Test.YtnnjlpkjpbbklaaOrdB
set_option linter.unusedVariables false
set_option linter.unusedSimpArgs false
namespace Go.Proofs.Ytnnjlpkjpbbklaa
open Go.RowKit Go.Shelf
attribute [local go_sem] Oper.semAt_some

theorem below_grown {A B : World} (h : Below A.heap.size A B) : A.grownBy B none := ⟨h.os, h.tape, h.output, h.size, fun k hk _ => h.block k hk⟩
theorem boxed_below {W W' : World} {B : Nat} {t : TypeId} {v : Value} (h : Boxed W B t v) {n : Nat} (hb : Below n W W') (hB : B < n) : Boxed W' B t v := (hb.block B hB).trans h

/-- What a round leaves of the iterator's box. -/
def KpT (n₀ Bt : Nat) (q : Option Addr) (W W' : World) : Prop := Below n₀ W W' ∧ (Boxed W Bt 36 (.pointer q) → Boxed W' Bt 36 (.pointer q))

/-- How far the walk has come: read off the node at which it stands. -/
def standMeasure (xs : List Nat) (v : Value) : Nat := if intOf v < 0 then 0 else xs.length - xs.idxOf (intOf v).toNat
theorem standMeasure_in {xs : List Nat} (hn : xs.Nodup) {k : Nat} (hk : k < xs.length) : standMeasure xs (.int .i64 (xs[k] : Int)) = xs.length - k := by
  unfold standMeasure
  show (if (xs[k] : Int) < 0 then 0 else xs.length - xs.idxOf (xs[k] : Int).toNat) = _
  rw [if_neg (by omega), Int.toNat_natCast, DT.idxOf_getElem hn k hk]
theorem standMeasure_out {xs : List Nat} {o : Option Nat} (h : ∀ b, o = some b → b ∉ xs) : standMeasure xs (.int .i64 (DT.upI o)) = 0 := by
  cases o with
  | none => rfl
  | some b =>
    show (if (b : Int) < 0 then 0 else xs.length - xs.idxOf (b : Int).toNat) = 0
    rw [if_neg (by omega), Int.toNat_natCast, List.idxOf_eq_length (h b rfl)]
    omega

section
variable {q : Option Addr} {T : DT} {wb : World}
theorem DT.next_nat {i : Nat} {n : Nd} (hi : T.at_ i = some n) : T.next (i : Int) = DT.upI (T.nextO i) := by unfold DT.next; rw [DT.has_some hi]; simp
theorem DT.behind_nat {i : Nat} {n : Nd} (hi : T.at_ i = some n) : T.behind (i : Int) = DT.upI (T.behindO i) := by unfold DT.behind; rw [DT.has_some hi]; simp

set_option maxRecDepth 100000 in
set_option maxHeartbeats 2000000 in
theorem within1_yes (h : On q T wb) {i : Nat} {n : Nd} (hi : T.at_ i = some n) (l Bt Bi : Nat) (J Jx : List Nat → World → Prop) (B0 : Nat) (hJ : AbidesFrom B0 J)
    (hY : ∀ pre x W, J pre W → pre.length < (T.all_ i).length → YieldAt Fence.wide (4 - 1) Try.prog l #[I ((x : Nat) : Int)] W fun e W' =>
      (e = .returned (.bool true) ∧ J (pre ++ [x]) W' ∧ KpT wb.heap.size Bt q W W') ∨ (e = .returned (.bool false) ∧ Jx (pre ++ [x]) W'))
    (W : World) (hbW : Below wb.heap.size wb W) (ht : Boxed W Bt 36 (.pointer q)) (hb : Boxed W Bi 3 (I (i : Int))) (h0 : J [] W) :
    CallsIn Fence.wide 4 Try.prog 182 #[.func (.yield l) #[] #[], .pointer (some ⟨Bt, 0, none⟩), .pointer (some ⟨Bi, 0, none⟩)] W fun e W' => (∃ v, e = .returned v) ∧
      ((∃ ys, ys = T.all_ i ∧ J ys W') ∨ (∃ pre, True ∧ Jx pre W')) := by
  have hW := h.wf hi
  have HO := Lib.hid h
  have HI := Lib.hid (And.intro hW hi)
  have H1 := Lib.hid (show ∀ W, Below _ _ W → Calls Try.prog 42 #[.pointer _, I (i : Int)] W fun e w' => e = .returned (.bool true) ∧ W = w' from fun W hb => by have h0 := (h).has W hb (i : Int); rw [DT.has_some hi] at h0; exact h0)
  have H2 : Hid (∀ W, Below wb.heap.size wb W → Calls Try.prog 73 #[.pointer q, I (i : Int)] W (Ret (I (DT.upI (T.behindO i))) W)) := fun W hb => by have := behind_any (h.keep hb) (i : Int); rwa [DT.behind_nat hi] at this
  obtain ⟨hf1, hf2⟩ := hW.stand_first hi
  have hnd := hW.all_nodup i n hi
  have hnm : ∀ b, T.behindO i = some b → b ∉ T.all_ i := fun b hb => hW.behind_not hi hb
  have hall := hW.all_lt hi
  have hnl := hW.nodes_le
  have hzW := hbW.size
  have htc := ht.cell
  have hbc := hb.cell
  have HJ := Lib.hid hJ
  have HA := Lib.hid (And.intro hnd (And.intro hnm hall))
  have HS : Hid (∀ k (hk : k < (T.all_ i).length), T.standAt i k = some (T.all_ i)[k] ∧ ((T.all_ i)[k] : Int) ≠ DT.upI (T.behindO i) ∧ T.nextO (T.all_ i)[k] = T.standAt i (k + 1) ∧ ∃ m, T.at_ (T.all_ i)[k] = some m) := fun k hk => by
    obtain ⟨a, b, c⟩ := hW.stand_next hi hk
    exact ⟨a, hW.stand_ne hi hk, b, c⟩
  have HE : Hid (∀ k, (T.all_ i).length ≤ k → T.standAt i k = T.behindO i) := fun k hk => hW.stand_end hk
  have HF := Lib.hid hf1
  clear h hi hW hf1 hnd hnm hall hJ
  generalize T.all_ i = xs at *
  obtain ⟨e0, he0⟩ : ∃ e0, e0 = DT.upI (T.behindO i) := ⟨_, rfl⟩
  have HE0 := Lib.hid he0
  have heb : -1 ≤ e0 := by rw [he0]; cases T.behindO i with | none => exact Int.le_refl _ | some b => show (-1 : Int) ≤ (b : Int); omega
  rw [← he0] at H2 HS
  clear he0
  refine callsIn_of_wp Try.func182 rfl trivial ?_ rfl
  simp only [Try.ntmps182, List.size_toArray, List.length_cons, List.length_nil, Nat.reduceAdd, Nat.reduceSub, Array.replicate_succ, Array.replicate_zero, List.push_toArray, List.append_toArray, List.nil_append, List.cons_append]
  gi_wp2_with (first
    | ((refine ⟨trivial, ?_⟩); (with_reducible refine (callsIn_wide.2 (H1.out _ (by repeat (first | exact Below.refl _ _ | assumption | (refine Below.setCell ?_ (by first | (simp; done) | (simp; omega) | omega) _) | (refine Below.alloc ?_ (by first | (simp; done) | (simp; omega) | omega) _) | (refine Below.drew ?_) | (refine Below.drewN' ?_ _))))).mono ?_); rintro e w' ⟨rfl, rfl⟩)
    | ((refine ⟨trivial, ?_⟩); (with_reducible refine (callsIn_wide.2 (H2.out _ (by repeat (first | exact Below.refl _ _ | assumption | (refine Below.setCell ?_ (by first | (simp; done) | (simp; omega) | omega) _) | (refine Below.alloc ?_ (by first | (simp; done) | (simp; omega) | omega) _) | (refine Below.drew ?_) | (refine Below.drewN' ?_ _))))).mono ?_); rintro e w1 ⟨rfl, hb1⟩; have hz1 := hb1.size; have ht1 := boxed_below ht hb1 ht.lt; have hi1 := boxed_below hb hb1 hb.lt; have hic1 := hi1.cell; have hJ1 := HJ.out _ _ _ none h0 (below_grown hb1) (fun r e => by cases e); have hbw1 : Below wb.heap.size wb w1 := hbW.trans (hb1.mono hzW)))
  gi_loopw [5] (fun s5 wr => ∃ k : Nat, k ≤ xs.length ∧ s5 = .int .i64 (DT.upI (T.standAt i k)) ∧ Hid (J (xs.take k) wr) ∧ Hid (Below wb.heap.size wb wr) ∧ Hid (Boxed wr Bt 36 (.pointer q))) (fun s5 _ => standMeasure xs s5)
  case atStart => exact ⟨0, Nat.zero_le _, by rw [HF.out]; rfl, hJ1, hbw1, ht1⟩
  case round =>
    obtain ⟨k, hk, rfl, hJk, hwk, htk⟩ := hrel
    have hw1' := hwk.out
    have hzk := hw1'.size
    have htkc := htk.out.cell
    by_cases hlt : k < xs.length
    · obtain ⟨s1, s2, s3, m, hm⟩ := HS.out k hlt
      rw [s1, upI_some]
      have hms := standMeasure_in HA.out.1 hlt
      have HMS := Lib.hid hms
      have HNx : Hid (∀ W, Below wb.heap.size wb W → Calls Try.prog 71 #[.pointer q, I (xs[k] : Int)] W (Ret (I (DT.upI (T.standAt i (k + 1)))) W)) := fun W hb => by have := next_any (HO.out.keep hb) (xs[k] : Int); rwa [DT.next_nat hm, s3] at this
      have hnext : Hid (standMeasure xs (.int .i64 (DT.upI (T.standAt i (k + 1)))) < xs.length - k) := by
        by_cases hlt1 : k + 1 < xs.length
        · rw [(HS.out _ hlt1).1, upI_some, standMeasure_in HA.out.1 hlt1]; show _ < _; omega
        · rw [HE.out _ (by omega), standMeasure_out HA.out.2.1]; show _ < _; omega
      have htake : Hid (xs.take k ++ [xs[k]] = xs.take (k + 1)) := (List.take_succ_eq_append_getElem hlt).symm
      have hxl : xs[k] < T.nodes.length := HA.out.2.2 _ (List.getElem_mem hlt)
      have hne : ((xs[k] : Int) != e0) = true := by simp; omega
      have hpl : (xs.take k).length < xs.length := by rw [List.length_take]; omega
      obtain ⟨fn, tmps, assign, body, hy, hR⟩ := hY (xs.take k) xs[k] wr hJk.out hpl
      rw [htake.out] at hR
      clear s1 s2 s3 hm hms hpl
      generalize xs[k] = x at *
      gi_wp2_with fail
      refine hR.mono ?_
      rintro e W3 (⟨rfl, hJ3, hK3⟩ | ⟨rfl, hJx3⟩)
      · have hb3 : Below wb.heap.size wb W3 := hw1'.trans hK3.1
        have hz3 := hb3.size
        have ht3 := hK3.2 htk.out
        have ht3c := ht3.cell
        gi_wp2_with ((refine ⟨trivial, ?_⟩); (with_reducible refine (callsIn_wide.2 (HNx.out _ (by repeat (first | exact Below.refl _ _ | assumption | (refine Below.setCell ?_ (by first | (simp; done) | (simp; omega) | omega) _) | (refine Below.alloc ?_ (by first | (simp; done) | (simp; omega) | omega) _) | (refine Below.drew ?_) | (refine Below.drewN' ?_ _))))).mono ?_); rintro e w4 ⟨rfl, hb4⟩; have hz4 := hb4.size; have ht4 := boxed_below ht3 hb4 ht3.lt; have hJ4 := HJ.out _ _ _ none hJ3 (below_grown hb4) (fun r e => by cases e); have hbw4 : Below wb.heap.size wb w4 := hb3.trans (hb4.mono hz3))
        go_roundw
        case rel => exact ⟨k + 1, by omega, rfl, hJ4, hbw4, ht4⟩
        case measure => rw [HMS.out]; exact hnext.out
      · gi_wp2_with fail
        refine bodyPost_ret (results_none rfl _ _ _) rfl ?_
        exact ⟨⟨_, rfl⟩, .inr ⟨_, trivial, hJx3⟩⟩
    · have hke : k = xs.length := by omega
      subst hke
      rw [HE.out _ (Nat.le_refl _), ← HE0.out]
      have hJx := hJk.out
      rw [List.take_length] at hJx
      by_cases he : 0 ≤ e0
      · have hd : decide (0 ≤ e0) = true := by simp [he]
        have hd2 : (e0 != e0) = false := by simp
        gi_wp2_with fail
        go_end0
        first | exact ⟨⟨_, rfl⟩, .inl ⟨_, rfl, hJx⟩⟩ | exact ⟨⟨_, rfl⟩, .inl hJx⟩
      · have hd : decide (0 ≤ e0) = false := by simp; omega
        gi_wp2_with fail
        go_end0
        first | exact ⟨⟨_, rfl⟩, .inl ⟨_, rfl, hJx⟩⟩ | exact ⟨⟨_, rfl⟩, .inl hJx⟩


theorem kpT_t {n₀ Bt : Nat} {A B C : World} (h : KpT n₀ Bt q A B) (k : KpT n₀ Bt q B C) : KpT n₀ Bt q A C := ⟨h.1.trans k.1, fun x => k.2 (h.2 x)⟩
theorem kpT_b {n₀ Bt : Nat} {w : World} (hn : n₀ ≤ w.heap.size) (hB : Bt < w.heap.size) (W : World) (l : Nat) (o o' : Obj) (hl : w.heap.size ≤ l) (h : W.heap[l]? = some o) (h1 : o.isCells = false) (h2 : o.isWalk = false) : KpT n₀ Bt q W (W.putObj l o') :=
  ⟨belowK_b hn W l o o' hl h h1 h2, fun hb => hb.kept (grownBy_putObj' W l o') (fun e => by have e' : Bt = l := Option.some.inj e; omega)⟩

set_option maxHeartbeats 1000000 in
theorem within_make (w : World) (id : Int) : CallsIn Fence.wide 4 Try.prog 149 #[.pointer q, I id] w fun e w' => e = .returned (.func (.func 182) #[] #[.pointer (some ⟨w.heap.size, 0, none⟩), .pointer (some ⟨w.heap.size + 1, 0, none⟩)]) ∧ w' = (w.alloc (.cells #[.pointer q] 36)).alloc (.cells #[I id] 3) := by
  refine callsIn_of_wp Try.func149 rfl trivial ?_ rfl
  simp only [Try.ntmps149, List.size_toArray, List.length_cons, List.length_nil, Nat.reduceAdd, Nat.reduceSub, Array.replicate_succ, Array.replicate_zero, List.push_toArray, List.append_toArray, List.nil_append, List.cons_append]
  gi_wp2
  go_ret
  exact ⟨rfl, rfl⟩

theorem within1_stops (h : On q T wb) {i : Nat} {n : Nd} (hi : T.at_ i = some n) (Bt Bi : Nat) (w : World) (hbw : Below wb.heap.size wb w) (ht : Boxed w Bt 36 (.pointer q)) (hb : Boxed w Bi 3 (I (i : Int))) :
    SeqStopsK Fence.wide 4 Try.prog 182 #[.pointer (some ⟨Bt, 0, none⟩), .pointer (some ⟨Bi, 0, none⟩)] (fun x : Nat => #[I (x : Int)]) (KpT wb.heap.size Bt q) (fun ys => ys = T.all_ i) (fun _ => True) (T.all_ i).length w :=
  fun l J Jx W hW hJ _ hY h0 => within1_yes h hi l Bt Bi J Jx _ hJ hY W (hbw.trans (hW.mono hbw.size)) (boxed_below ht hW ht.lt) (boxed_below hb hW hb.lt) h0

set_option maxRecDepth 100000 in
set_option maxHeartbeats 2000000 in
theorem within1_no (h : On q T wb) {id : Int} (hh : T.has id = false) (l Bt Bi : Nat) (J : List Nat → World → Prop) (W : World) (hbW : Below wb.heap.size wb W) (ht : Boxed W Bt 36 (.pointer q)) (hb : Boxed W Bi 3 (I id)) (h0 : J [] W) :
    CallsIn Fence.wide 4 Try.prog 182 #[.func (.yield l) #[] #[], .pointer (some ⟨Bt, 0, none⟩), .pointer (some ⟨Bi, 0, none⟩)] W fun e W' => (∃ v, e = .returned v) ∧ J [] W' := by
  have H1 := Lib.hid (show ∀ W, Below _ _ W → Calls Try.prog 42 #[.pointer _, I id] W fun e w' => e = .returned (.bool false) ∧ W = w' from fun W hb => by have h0 := (h).has W hb id; rw [hh] at h0; exact h0)
  have htc := ht.cell
  have hbc := hb.cell
  clear h
  refine callsIn_of_wp Try.func182 rfl trivial ?_ rfl
  simp only [Try.ntmps182, List.size_toArray, List.length_cons, List.length_nil, Nat.reduceAdd, Nat.reduceSub, Array.replicate_succ, Array.replicate_zero, List.push_toArray, List.append_toArray, List.nil_append, List.cons_append]
  gi_wp2_with (first
    | ((refine ⟨trivial, ?_⟩); (with_reducible refine (callsIn_wide.2 (H1.out _ (by repeat (first | exact Below.refl _ _ | assumption | (refine Below.setCell ?_ (by first | (simp; done) | (simp; omega) | omega) _) | (refine Below.alloc ?_ (by first | (simp; done) | (simp; omega) | omega) _) | (refine Below.drew ?_) | (refine Below.drewN' ?_ _))))).mono ?_); rintro e w' ⟨rfl, rfl⟩))
  refine bodyPost_ret (results_none rfl _ _ _) rfl ?_
  exact ⟨⟨_, rfl⟩, h0⟩

set_option maxRecDepth 100000 in
set_option maxHeartbeats 2000000 in
theorem all_of (id : Int) (xs : List Nat) (hlen : xs.length ≤ 2000) (hseq : ∀ w, Below wb.heap.size wb w → ∀ Bt Bi, Boxed w Bt 36 (.pointer q) → Boxed w Bi 3 (I id) → SeqStopsK Fence.wide 4 Try.prog 182 #[.pointer (some ⟨Bt, 0, none⟩), .pointer (some ⟨Bi, 0, none⟩)] (fun x : Nat => #[I (x : Int)]) (KpT wb.heap.size Bt q) (fun ys => ys = xs) (fun _ => True) xs.length w) :
    Calls Try.prog 74 #[.pointer q, I id] wb (RetRow 3 1 xs.length (kidCells xs) wb) := by
  obtain ⟨i0, hi0, hz0, hz1, hz2⟩ := infoIntP
  refine (callsIn_wide (n := 5)).1 ?_
  refine callsIn_of_wp_marks Try.func74 rfl trivial ?_ rfl
  simp only [Try.ntmps74, List.size_toArray, List.length_cons, List.length_nil, Nat.reduceAdd, Nat.reduceSub, Array.replicate_succ, Array.replicate_zero, List.push_toArray, List.append_toArray, List.nil_append, List.cons_append]
  gi_wp2_with ((refine ⟨trivial, ?_⟩); (with_reducible refine (within_make _ _).mono ?_); rintro e w' ⟨rfl, rfl⟩)
  have bO := Boxed.new wb 81 (.slice none 0 0)
  have bT := Boxed.new (wb.alloc (.cells #[.slice none 0 0] 81)) 36 (.pointer q)
  have bI := Boxed.new ((wb.alloc (.cells #[.slice none 0 0] 81)).alloc (.cells #[.pointer q] 36)) 3 (I id)
  simp only [World.size_alloc] at bT bI
  have hB0 : Below wb.heap.size wb (((wb.alloc (.cells #[.slice none 0 0] 81)).alloc (.cells #[.pointer q] 36)).alloc (.cells #[I id] 3)) := (((Below.refl _ wb).alloc (Nat.le_refl _) _).alloc (by simp) _).alloc (by simp; omega) _
  refine wpIn_rangeFunc_ownG rfl (by omega) (gf := 182) (lb := #[.pointer (some ⟨wb.heap.size + 1, 0, none⟩), .pointer (some ⟨wb.heap.size + 1 + 1, 0, none⟩)]) rfl trivial (enters_of Try.func182 (by kernel_rfl) rfl)
    (hseq _ hB0 (wb.heap.size + 1) (wb.heap.size + 1 + 1) (bT.alloc _) bI) kpT_t (kpT_b (by first | (simp; done) | (simp; omega) | omega) (by first | (simp; done) | (simp; omega) | omega)) (Below.refl _ _) (fun _ => rfl)
    (fun pre W => (∃ v, Boxed W wb.heap.size 81 v ∧ W.ownsRow wb.heap.size 3 1 v pre.length (kidCells pre) ∧ True) ∧ Below wb.heap.size wb W)
    (fun _ _ _ => False)
    (OwnFrom.and (Own.from (holdsRow_own wb.heap.size wb.heap.size 81 3 1 (fun pre => pre.length) (fun pre => kidCells pre) (fun pre v => True)) _) (ownFrom_below (Nat.le_refl _) (by simp; omega)))
    (fun _ _ _ _ _ hs _ _ => hs)
    ⟨⟨_, (bO.alloc _).alloc _, World.ownsRow_nil _ _ _ _, trivial⟩, hB0⟩
    (fun x => { tmps := #[.pointer q, I id, undef, undef, .slice none 0 0, .pointer (some ⟨wb.heap.size, 0, none⟩), I (x : Int), .pointer q, I id, .func (.func 182) #[] #[.pointer (some ⟨wb.heap.size + 1, 0, none⟩), .pointer (some ⟨wb.heap.size + 1 + 1, 0, none⟩)], I (x : Int), undef, undef, undef, undef, undef], defers := [] }) ?assign ?body ?done ?stop
  case assign =>
    intro l x W K hK
    gi_wp2
    exact hK
  case body =>
    rintro l pre x W ⟨⟨v, hv, hrow, -⟩, hB⟩ hlt
    have hc := hv.cell
    gi_wp2_with (gi_at_builtin; refine wpListIn_append_own _ rfl _ _ 81 rfl wb.heap.size 3 i0 (.int .i64 0) 1 8 Try.underlying81 hi0 hz0 hz1 hz2 rfl (by decide) _ _ _ rfl (hrow.alloc _) ⟨W.heap.size, 0, none⟩ 1 1 [I (x : Int)] rfl rfl (cell_one_new _ _ _) (by simp [Value.oneCell']) (by unfold maxLen; omega) (by omega) (by have := hB.size; simp; omega) ?_; intro v' w1 hown' hgrow _; obtain ⟨g', cap', rfl⟩ := ownsRow_succ hown'; obtain ⟨hv1, hv2, hr2, hk2, hb2⟩ := hv.appended (by decide) hrow hB.size (Nat.le_refl _) hown' hgrow; have hc1 := hv1.cell; have hf1 := hv1.frozen)
    refine ⟨hk2.from _, ⟨hb2, fun hbt => ?_⟩, ⟨_, hv2, ?_, trivial⟩, hB.trans hb2⟩
    · exact ((hbt.alloc _).kept hgrow (hbt.not_row (by decide) hrow)).kept (grownBy_setCell' w1 _ _) (fun e => by simp at e)
    · have : kidCells (pre ++ [x]) = kidCells pre ++ [I (x : Int)] := by simp [kidCells]
      rw [this, List.length_append]
      exact hr2
  case done =>
    rintro D ys W hD rfl ⟨⟨v, hv, hrow, -⟩, hB⟩ hK
    have hc := hv.cell
    gi_wp2
    refine ⟨by simp, .inl ⟨_, _, rfl, run_takeDeferred hK, ?_⟩⟩
    exact ⟨_, results_tmp rfl _ _ _, v, rfl, ownsRow_putObj hrow _ hK rfl, hB.trans (belowK_b (w := wb) (Nat.le_refl _) W D _ _ (by simp at hD; omega) hK rfl rfl)⟩
  case stop =>
    rintro D c pre W _ _ h _
    exact h.elim

/-- All, of any number. -/
theorem all09_any (h : On q T wb) (id : Int) : Calls Try.prog 74 #[.pointer q, I id] wb (RetRow 3 1 (T.all id).length (kidCells (T.all id)) wb) := by
  cases hh : T.has id with
  | false =>
    have e : T.all id = [] := by unfold DT.all; rw [hh]; rfl
    rw [e]
    refine all_of id [] (Nat.zero_le _) fun w hw Bt Bi ht hb l J Jx W hW _ _ _ h0 => ?_
    exact (within1_no h hh l Bt Bi J W (hw.trans (hW.mono hw.size)) (boxed_below ht hW ht.lt) (boxed_below hb hW hb.lt) h0).mono fun e W' ⟨hv, hj⟩ => ⟨hv, .inl ⟨[], rfl, hj⟩⟩
  | true =>
    obtain ⟨i, n, rfl, hi⟩ := DT.has_get hh
    rw [DT.all_nat hi]
    have hW := h.wf hi
    have hlen := nodup_le _ _ (hW.all_nodup i n hi) (hW.all_lt hi)
    have hnl := hW.nodes_le
    exact all_of (i : Int) (T.all_ i) (by omega) fun w hw Bt Bi ht hb => within1_stops h hi Bt Bi w hw ht hb
end
end Go.Proofs.Ytnnjlpkjpbbklaa
