/-
  within, Live, Depth, Height of package dom. Conditions: the tree lies in memory and is sound.
-/
import Derived.Test.YtnnjlpkjpbbklaaDomRead3
set_option linter.unusedVariables false
set_option linter.unusedSimpArgs false
namespace Go.Proofs.Ytnnjlpkjpbbklaa
open Go.RowKit

section
variable {w : World} {tb : Nat} {T : DT} {nv : Value} {G : List (Option NG)}

theorem WF.pos (h : T.WF) : 0 < T.nodes.length := by
  obtain ⟨n, hn, _⟩ := h.host
  exact Nat.lt_of_le_of_lt (Nat.zero_le _) (DT.at_lt hn)

/-- The row of nodes, opened. -/
theorem Rep.nodes_open (h : Rep w tb T nv G) (hW : T.WF) : ∃ g cap, nv = .slice (some ⟨g, 0, none⟩) T.nodes.length cap ∧ T.nodes.length ≤ cap ∧ cap ≤ maxLen ∧
    ∀ i n, T.at_ i = some n → ∃ gb, w.cell? ⟨g, i, none⟩ = some (.pointer (some ⟨gb.b, 0, none⟩)) ∧ NodeRep w gb n ∧ G[i]? = some (some gb) := by
  have hp := WF.pos hW
  obtain ⟨g, cap, hv, hc, hm, hg, hcell⟩ := h.row.open_ (by rw [h.len]; exact hp)
  rw [h.len] at hv hc
  refine ⟨g, cap, hv, hc, hm, fun i n hi => ?_⟩
  obtain ⟨gb, hgb, hr⟩ := h.node i n hi
  have hlt : i < G.length := by rw [h.len]; exact DT.at_lt hi
  refine ⟨gb, ?_, hr, hgb⟩
  rw [hcell i hlt, List.getElem?_map, hgb]
  rfl

def curOk (T : DT) (c : Option Nat) : Prop := ∀ j, c = some j → ∃ m, T.at_ j = some m
def curMeasure (T : DT) (v : Value) : Nat := if intOf v < 0 then 0 else T.depthF DT.fuel (intOf v).toNat + 1

theorem upI_some (j : Nat) : DT.upI (some j) = (j : Int) := rfl
theorem upI_none : DT.upI none = -1 := rfl

theorem curMeasure_some (T : DT) (j : Nat) : curMeasure T (.int .i64 (j : Int)) = T.depthF DT.fuel j + 1 := by
  show (if (j : Int) < 0 then 0 else T.depthF DT.fuel (j : Int).toNat + 1) = _
  rw [if_neg (by omega)]
  rfl
theorem curMeasure_none (T : DT) : curMeasure T (.int .i64 (DT.upI none)) = 0 := rfl

set_option maxHeartbeats 400000 in
theorem within_any (h : Rep w tb T nv G) (hW : T.WF) {i : Nat} {n : Nd} (hi : T.at_ i = some n) (o : Nat) (ho : o ≤ 1000000) :
    Calls Try.prog 115 #[.pointer (some ⟨tb, 0, none⟩), .int .i64 i, .int .i64 o] w fun e w' => e = .returned (.bool (T.within i o)) ∧ w = w' := by
  have hl := hW.nodes_le
  obtain ⟨g, cap, rfl, hcap, hmax, hnode⟩ := h.nodes_open hW
  have hc := h.tree.cell
  have HN := Lib.hid hnode
  have HW := Lib.hid hW
  have HI := Lib.hid hi
  have hil := DT.at_lt hi
  have R0 := Lib.hid (show T.within i o = T.within i o from rfl)
  obtain ⟨r, hr⟩ : ∃ r, r = T.within i o := ⟨_, rfl⟩
  have HR := Lib.hid hr
  rw [← hr]
  have hnl : ((T.nodes.length : Nat) : Int) ≤ 2000 := by omega
  have hlen : ∀ j m, T.at_ j = some m → j < T.nodes.length := fun j m hj => DT.at_lt hj
  have HL := Lib.hid hlen
  clear hnode hr hi h hW hlen R0
  generalize T.nodes.length = N at *
  go_enter Try.func115, Try.ntmps115
  go_wp2_with fail
  go_loop [1] (fun s => ∃ c : Option Nat, s = .int .i64 (DT.upI c) ∧ Hid (curOk T c) ∧ Hid (r = match c with | none => false | some j => T.within j o)) (fun s => curMeasure T s)
  case atStart => exact ⟨some i, rfl, fun j hj => by cases hj; exact ⟨n, HI.out⟩, HR.out⟩
  case round =>
    obtain ⟨c, rfl, hok, hrr⟩ := hrel
    cases c with
    | none =>
      rw [upI_none]
      go_wp2_with fail
      go_ret
      refine ⟨ret_bool ?_, rfl⟩
      have h1 : r = false := hrr.out
      rw [h1]
      simp
    | some j =>
      rw [upI_some]
      obtain ⟨m, hm⟩ := hok.out j rfl
      have hjl := HL.out j m hm
      obtain ⟨gb, hcell, hrep, _⟩ := HN.out j m hm
      have hcn := hrep.1.cell
      have HS := Lib.hid (DT.WF.within_step HW.out hm o)
      have HM := Lib.hid hm
      have HP := Lib.hid hrep
      clear hm hrep
      by_cases hjo : j = o
      · subst hjo
        have hd : ((j : Int) == (j : Int)) = true := by simp
        have hd2 : ((j : Int) != (j : Int)) = false := by simp
        go_wp2_with fail
        go_ret
        refine ⟨ret_bool ?_, rfl⟩
        have h1 : r = T.within j j := hrr.out
        rw [h1, HS.out]
        simp
      · have hd2 : ((j : Int) != (o : Int)) = true := by simp; omega
        have HJ := Lib.hid hjo
        clear hjo
        obtain ⟨u, hu⟩ : ∃ u, u = m.up := ⟨_, rfl⟩
        rw [← hu] at hcn
        have HU := Lib.hid hu
        clear hu
        go_wp2_with fail
        refine ⟨⟨u, rfl, ?_, ?_⟩, ?_⟩
        · intro p hp
          obtain ⟨q, hq, _⟩ := HW.out.par j m p HM.out (by rw [← HU.out, hp])
          exact ⟨q, hq⟩
        · have h1 : r = T.within j o := hrr.out
          show r = _
          rw [h1, HS.out, ← HU.out]
          have : (j == o) = false := by simp; exact HJ.out
          rw [this]
          cases u <;> simp
        · rw [curMeasure_some]
          cases hu : u with
          | none => rw [curMeasure_none]; omega
          | some p =>
            have := HW.out.depth_up HM.out (by rw [← HU.out, hu])
            rw [upI_some, curMeasure_some]
            omega

set_option maxHeartbeats 400000 in
theorem live_any (h : Rep w tb T nv G) (hW : T.WF) (id : Int) :
    Calls Try.prog 43 #[.pointer (some ⟨tb, 0, none⟩), .int .i64 id] w fun e w' => e = .returned (.bool (T.live id)) ∧ w = w' := by
  have hl := hW.nodes_le
  cases hn : T.get id with
  | none =>
    have e : T.live id = false := by simp [DT.live, DT.has, hn]
    have H := Lib.hid (get_none h hl hn)
    rw [e]
    clear h hn e hW
    go_enter Try.func43, Try.ntmps43
    go_wp2_with ((with_reducible refine H.out.mono ?_); rintro e w' ⟨rfl, rfl⟩)
    go_ret
    exact ⟨rfl, rfl⟩
  | some n =>
    obtain ⟨h0, h1, h2⟩ := DT.get_some hn
    have e : T.live id = T.within id.toNat 0 := by simp [DT.live, DT.has, hn]
    obtain ⟨g, hr, _, H⟩ := get_some h hl hn
    have H := Lib.hid H
    have HT := within_any h hW h1 0 (by omega)
    rw [h2] at HT
    have HT := Lib.hid HT
    rw [e]
    generalize T.within id.toNat 0 = r at *
    clear h hn e hr hW h1 h2
    go_enter Try.func43, Try.ntmps43
    go_wp2_with (first | ((with_reducible refine H.out.mono ?_); rintro e w' ⟨rfl, rfl⟩) | ((refine HT.out.mono ?_); rintro e w' ⟨rfl, rfl⟩))
    go_ret
    exact ⟨rfl, rfl⟩

set_option maxHeartbeats 400000 in
theorem depth_any (h : Rep w tb T nv G) (hW : T.WF) (id : Int) :
    Calls Try.prog 51 #[.pointer (some ⟨tb, 0, none⟩), .int .i64 id] w fun e w' => e = .returned (.int .i64 (T.depth id)) ∧ w = w' := by
  have hl := hW.nodes_le
  cases hn : T.get id with
  | none =>
    have e : T.depth id = -1 := by simp [DT.depth, DT.has, hn]
    have H := Lib.hid (get_none h hl hn)
    rw [e]
    clear h hn e hW
    go_enter Try.func51, Try.ntmps51
    go_wp2_with ((with_reducible refine H.out.mono ?_); rintro e w' ⟨rfl, rfl⟩)
    go_ret
    exact ⟨rfl, rfl⟩
  | some n =>
    obtain ⟨h0, h1, h2⟩ := DT.get_some hn
    obtain ⟨i, rfl⟩ : ∃ i : Nat, id = i := ⟨id.toNat, by omega⟩
    have e : T.depth (i : Int) = (T.depthF DT.fuel i : Int) := by simp [DT.depth, DT.has, hn]
    have h1 : T.at_ i = some n := by simpa using h1
    obtain ⟨g0, _, _, H⟩ := get_some h hl hn
    have H := Lib.hid H
    obtain ⟨g, cap, rfl, hcap, hmax, hnode⟩ := h.nodes_open hW
    have hc := h.tree.cell
    obtain ⟨gi, hgi, hri, _⟩ := hnode i n h1
    have hci := hri.1.cell
    have hil := DT.at_lt h1
    have HN := Lib.hid hnode
    have HW := Lib.hid hW
    have HI := Lib.hid h1
    have hlen : ∀ j m, T.at_ j = some m → j < T.nodes.length := fun j m hj => DT.at_lt hj
    have HL := Lib.hid hlen
    have hb := hW.depth_le h1
    have HS : Hid (T.depthF DT.fuel i = match n.up with | none => 0 | some p => T.depthF DT.fuel p + 1) := by
      cases hu : n.up with
      | none => exact hW.depth_root h1 hu
      | some p => exact hW.depth_up h1 hu
    have HK : Hid (curOk T n.up) := fun p hp => by
      obtain ⟨m, hm, _⟩ := hW.par i n p h1 hp
      exact ⟨m, hm⟩
    rw [e]
    obtain ⟨r, hr⟩ : ∃ r, r = T.depthF DT.fuel i := ⟨_, rfl⟩
    rw [← hr] at hb ⊢
    have HR := Lib.hid hr
    clear h hn e hW hnode h1 hri hlen hr h2
    generalize T.nodes.length = N at *
    generalize n.up = u0 at *
    go_enter Try.func51, Try.ntmps51
    go_wp2_with ((with_reducible refine H.out.mono ?_); rintro e w' ⟨rfl, rfl⟩)
    go_loop [5, 6] (fun d s => ∃ (c : Option Nat) (k : Nat), s = .int .i64 (DT.upI c) ∧ d = .int .i64 (k : Int) ∧ k ≤ 40 ∧ Hid (curOk T c) ∧ Hid (r = match c with | none => k | some j => T.depthF DT.fuel j + 1 + k)) (fun _ s => curMeasure T s)
    case atStart =>
      refine ⟨u0, 0, rfl, rfl, by omega, HK, ?_⟩
      show r = _
      rw [HR.out, HS.out]
    case round =>
      obtain ⟨c, k, rfl, rfl, hk, hok, hrr⟩ := hrel
      cases c with
      | none =>
        rw [upI_none]
        go_wp2_with fail
        go_ret
        have h1 : r = k := hrr.out
        rw [h1]
        exact ⟨rfl, rfl⟩
      | some j =>
        rw [upI_some]
        obtain ⟨m, hm⟩ := hok.out j rfl
        have hjl := HL.out j m hm
        obtain ⟨gb, hcell, hrep, _⟩ := HN.out j m hm
        have hcn := hrep.1.cell
        have HM := Lib.hid hm
        have HP := Lib.hid hrep
        have h1 : r = T.depthF DT.fuel j + 1 + k := hrr.out
        have hk1 : k + 1 ≤ 40 := by omega
        have H1 := Lib.hid h1
        clear hm hrep h1
        obtain ⟨u, hu⟩ : ∃ u, u = m.up := ⟨_, rfl⟩
        rw [← hu] at hcn
        have HU := Lib.hid hu
        clear hu
        go_wp2_with fail
        refine ⟨⟨u, k + 1, rfl, by go_num, hk1, ?_, ?_⟩, ?_⟩
        · intro p hp
          obtain ⟨q, hq, _⟩ := HW.out.par j m p HM.out (by rw [← HU.out, hp])
          exact ⟨q, hq⟩
        · show r = _
          rw [H1.out]
          cases hu : u with
          | none => rw [HW.out.depth_root HM.out (by rw [← HU.out, hu])]; show 0 + 1 + k = k + 1; omega
          | some p => rw [HW.out.depth_up HM.out (by rw [← HU.out, hu])]; show T.depthF DT.fuel p + 1 + 1 + k = T.depthF DT.fuel p + 1 + (k + 1); omega
        · rw [curMeasure_some]
          cases hu : u with
          | none => rw [curMeasure_none]; omega
          | some p =>
            have := HW.out.depth_up HM.out (by rw [← HU.out, hu])
            rw [upI_some, curMeasure_some]
            omega
end
end Go.Proofs.Ytnnjlpkjpbbklaa
