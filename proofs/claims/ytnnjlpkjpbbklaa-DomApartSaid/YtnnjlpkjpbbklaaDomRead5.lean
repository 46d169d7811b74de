/-
  Height of package dom. Conditions: the tree lies in memory and is sound.
-/
import Derived.Test.YtnnjlpkjpbbklaaDomRead4
import Derived.Lib.MinMax
set_option linter.unusedVariables false
set_option linter.unusedSimpArgs false
namespace Go.Proofs.Ytnnjlpkjpbbklaa
open Go.RowKit

def hiTo (T : DT) (l : List Nat) : Nat := l.foldl (fun b k => max b (T.heightF DT.fuel k + 1)) 0
theorem hiTo_succ (T : DT) (l : List Nat) (j : Nat) (hj : j < l.length) : hiTo T (l.take (j + 1)) = max (hiTo T (l.take j)) (T.heightF DT.fuel l[j] + 1) := by
  unfold hiTo
  rw [List.take_succ_eq_append_getElem hj, List.foldl_append]
  rfl
theorem hiTo_le (T : DT) (hW : T.WF) {i : Nat} {n : Nd} (hi : T.at_ i = some n) (j : Nat) : hiTo T (n.kids.take j) ≤ 40 := by
  refine DT.foldl_max_le _ (fun k => T.heightF DT.fuel k + 1) 0 40 (by omega) fun k hk => ?_
  obtain ⟨m, hm, _, hd⟩ := hW.kid_depth hi (List.mem_of_mem_take hk)
  have := hW.height_dep hm
  have := hW.dep2
  omega

section
variable {w : World} {tb : Nat} {T : DT} {nv : Value} {G : List (Option NG)}

set_option maxHeartbeats 800000 in
theorem height_at (h : Rep w tb T nv G) (hW : T.WF) : ∀ (f : Nat) (i : Nat) (n : Nd), T.at_ i = some n → 41 ≤ f + T.depthF DT.fuel i →
    Calls Try.prog 65 #[.pointer (some ⟨tb, 0, none⟩), .int .i64 (i : Int)] w fun e w' => e = .returned (.int .i64 (T.heightF DT.fuel i : Int)) ∧ w = w' := by
  intro f
  induction f with
  | zero => intro i n hi hf; have := hW.depth_le hi; omega
  | succ f ih =>
    intro i n hi hf
    have hl := hW.nodes_le
    have hn : T.get (i : Int) = some n := by rw [DT.get_nat]; exact hi
    obtain ⟨g, hr, _, H⟩ := get_some h hl hn
    have H := Lib.hid H
    have hc := hr.1.cell
    have hkl := kids_len hW hi
    have e : T.heightF DT.fuel i = hiTo T n.kids := hW.height_step hi
    rw [e]
    have IH : Hid (∀ k ∈ n.kids, Calls Try.prog 65 #[.pointer (some ⟨tb, 0, none⟩), .int .i64 (k : Int)] w fun e w' => e = .returned (.int .i64 (T.heightF DT.fuel k : Int)) ∧ w = w') := by
      intro k hk
      obtain ⟨m, hm, _, hd⟩ := hW.kid_depth hi hk
      exact ih k m hm (by omega)
    have HLE : Hid (∀ j, hiTo T (n.kids.take j) ≤ 40) := hiTo_le T hW hi
    have HST : Hid (∀ j (hj : j < n.kids.length), hiTo T (n.kids.take (j + 1)) = max (hiTo T (n.kids.take j)) (T.heightF DT.fuel n.kids[j] + 1)) := fun j hj => hiTo_succ T n.kids j hj
    have HHB : Hid (∀ k ∈ n.kids, T.heightF DT.fuel k ≤ 40) := by
      intro k hk
      obtain ⟨m, hm, _, hd⟩ := hW.kid_depth hi hk
      have := hW.height_dep hm
      have := hW.dep2
      omega
    obtain ⟨A, cap, hv, hcap, hmx, hA⟩ := hr.2.2.form
    rw [hv] at hc
    have HC : Hid (∀ j (hj : j < n.kids.length), ∃ a, A = some ⟨a, 0, none⟩ ∧ w.cell? ⟨a, j, none⟩ = some (.int .i64 (n.kids[j] : Int))) := by
      intro j hj
      obtain ⟨ga, cap', hv', _, _, _, hcell⟩ := hr.2.2.open_ (by omega)
      rw [hv] at hv'
      injection hv' with h1 h2 h3
      refine ⟨ga, h1, ?_⟩
      rw [hcell j hj, kidCells_get _ _ hj]
    clear h hn e hr hv ih hA
    have HI := Lib.hid hi
    have HW := Lib.hid hW
    clear hi hW
    obtain ⟨m, hm⟩ : ∃ m, m = n.kids.length := ⟨_, rfl⟩
    rw [← hm] at hkl hc hcap
    have HM := Lib.hid hm
    have hml : m ≤ 2000 := by omega
    clear hm
    go_enter Try.func65, Try.ntmps65
    go_wp2_with ((with_reducible refine H.out.mono ?_); rintro e w' ⟨rfl, rfl⟩)
    go_loop [6, 8, 19] (fun h _ s => ∃ j : Nat, j ≤ m ∧ s = .int .i64 (j : Int) ∧ h = .int .i64 (hiTo T (n.kids.take j) : Int)) (fun _ _ s => m - (intOf s).toNat)
    case atStart => exact ⟨0, Nat.zero_le _, rfl, rfl⟩
    case round =>
      obtain ⟨j, hj, rfl, rfl⟩ := hrel
      have hle := HLE.out j
      by_cases hlt : j < m
      · have hjl : j < n.kids.length := by have := HM.out; omega
        obtain ⟨a, rfl, hcell⟩ := HC.out j hjl
        have hmem : n.kids[j] ∈ n.kids := List.getElem_mem hjl
        have IHk := Lib.hid (IH.out _ hmem)
        have hhb := HHB.out _ hmem
        have hst := HST.out j hjl
        generalize n.kids[j] = k at *
        have HST' := Lib.hid hst
        clear hst hmem hjl
        go_wp2_with ((refine IHk.out.mono ?_); rintro e w' ⟨rfl, rfl⟩)
        refine ⟨⟨j + 1, by omega, by go_num, ?_⟩, by simp [intOf]; omega⟩
        rw [HST'.out]
        congr 1
        omega
      · have hjm : j = m := by omega
        subst hjm
        go_wp2_with fail
        go_ret
        refine ⟨?_, rfl⟩
        rw [List.take_of_length_le (by have := HM.out; omega)]
        rfl

theorem height_any (h : Rep w tb T nv G) (hW : T.WF) (id : Int) :
    Calls Try.prog 65 #[.pointer (some ⟨tb, 0, none⟩), .int .i64 id] w fun e w' => e = .returned (.int .i64 (T.height id)) ∧ w = w' := by
  have hl := hW.nodes_le
  cases hn : T.get id with
  | none =>
    have e : T.height id = -1 := by simp [DT.height, DT.has, hn]
    have H := Lib.hid (get_none h hl hn)
    rw [e]
    clear h hn e hW
    go_enter Try.func65, Try.ntmps65
    go_wp2_with ((with_reducible refine H.out.mono ?_); rintro e w' ⟨rfl, rfl⟩)
    go_ret
    exact ⟨rfl, rfl⟩
  | some n =>
    obtain ⟨h0, h1, h2⟩ := DT.get_some hn
    have e : T.height id = (T.heightF DT.fuel id.toNat : Int) := by simp [DT.height, DT.has, hn]
    rw [e]
    have := height_at h hW 41 id.toNat n h1 (by omega)
    rwa [h2] at this
end
end Go.Proofs.Ytnnjlpkjpbbklaa
