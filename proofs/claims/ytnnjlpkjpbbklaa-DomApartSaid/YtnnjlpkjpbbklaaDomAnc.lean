/-
  The tree as plain data: who is within whom; what a change of a node leaves of it. No program in sight. Conditions: none.
-/
import Derived.Test.YtnnjlpkjpbbklaaDomOps2
set_option linter.unusedVariables false
set_option linter.unusedSimpArgs false
namespace Go.Proofs.Ytnnjlpkjpbbklaa
namespace DT

/-- o is i, or one that i is within. -/
inductive Anc (T : DT) : Nat → Nat → Prop
  | refl (i : Nat) : Anc T i i
  | step {i p o : Nat} {n : Nd} (hi : T.at_ i = some n) (hu : n.up = some p) (h : Anc T p o) : Anc T i o

variable {T : DT}

theorem up_of {i : Nat} {n : Nd} (hi : T.at_ i = some n) : T.up i = n.up := by simp [up, hi]

theorem Anc.trans {a b c : Nat} (h : Anc T a b) (k : Anc T b c) : Anc T a c := by
  induction h with
  | refl => exact k
  | step hi hu _ ih => exact .step hi hu (ih k)
theorem Anc.root {i o : Nat} {n : Nd} (h : Anc T i o) (hi : T.at_ i = some n) (hu : n.up = none) : i = o := by
  cases h with
  | refl => rfl
  | step hi' hu' _ => rw [hi] at hi'; cases hi'; rw [hu] at hu'; cases hu'
theorem Anc.step_inv {i o p : Nat} {n : Nd} (h : Anc T i o) (hi : T.at_ i = some n) (hu : n.up = some p) : i = o ∨ Anc T p o := by
  cases h with
  | refl => exact .inl rfl
  | step hi' hu' h => rw [hi] at hi'; cases hi'; rw [hu] at hu'; cases hu'; exact .inr h
theorem Anc.here {i o : Nat} {n : Nd} (h : Anc T i o) (hW : T.WF) (hi : T.at_ i = some n) : ∃ m, T.at_ o = some m := by
  induction h generalizing n with
  | refl => exact ⟨n, hi⟩
  | step hi' hu' _ ih =>
    obtain ⟨m, hm, _⟩ := hW.par _ _ _ hi' hu'
    exact ih hm

theorem withinF_anc : ∀ (f i o : Nat), T.withinF f i o = true → Anc T i o := by
  intro f
  induction f with
  | zero => intro i o h; simp [withinF] at h; subst h; exact .refl _
  | succ f ih =>
    intro i o h
    unfold withinF at h
    rw [Bool.or_eq_true] at h
    rcases h with h | h
    · have : i = o := by simpa using h
      subst this; exact .refl _
    · cases hi : T.at_ i with
      | none => simp [up, hi] at h
      | some n =>
        rw [up_of hi] at h
        cases hu : n.up with
        | none => rw [hu] at h; cases h
        | some p => rw [hu] at h; exact .step hi hu (ih p o h)
theorem WF.within_anc (hW : T.WF) {i : Nat} {n : Nd} (hi : T.at_ i = some n) (o : Nat) : T.within i o = true ↔ Anc T i o := by
  refine ⟨withinF_anc _ _ _, fun h => ?_⟩
  induction h generalizing n with
  | refl i => rw [hW.within_step hi]; simp
  | step hi' hu' _ ih =>
    obtain ⟨m, hm, _⟩ := hW.par _ _ _ hi' hu'
    rw [hW.within_step hi', hu', Bool.or_eq_true]
    exact .inr (ih hm)
theorem WF.within_not (hW : T.WF) {i : Nat} {n : Nd} (hi : T.at_ i = some n) (o : Nat) : T.within i o = false ↔ ¬ Anc T i o := by
  rw [← hW.within_anc hi]; simp
theorem WF.anc_depth (hW : T.WF) {i o : Nat} {n : Nd} (hi : T.at_ i = some n) (h : Anc T i o) : T.depthF fuel i + T.heightF fuel i ≤ T.depthF fuel o + T.heightF fuel o ∧ T.depthF fuel o ≤ T.depthF fuel i ∧ (T.depthF fuel i = T.depthF fuel o → i = o) := by
  induction h generalizing n with
  | refl => exact ⟨Nat.le_refl _, Nat.le_refl _, fun _ => rfl⟩
  | @step i p o n' hi' hu' _ ih =>
    obtain ⟨m, hm, hk⟩ := hW.par _ _ _ hi' hu'
    obtain ⟨h1, h2, h3⟩ := ih hm
    have hd := hW.depth_up hi' hu'
    have hh := hW.height_step hm
    have := foldl_max_mem m.kids (fun k => T.heightF fuel k + 1) 0 _ hk
    rw [← hh] at this
    exact ⟨by omega, by omega, fun e => by omega⟩
theorem WF.anc_anti (hW : T.WF) {i o : Nat} {n : Nd} (hi : T.at_ i = some n) (h : Anc T i o) (k : Anc T o i) : i = o := by
  obtain ⟨m, hm⟩ := h.here hW hi
  have h1 := hW.anc_depth hi h
  have h2 := hW.anc_depth hm k
  exact h1.2.2 (by omega)
theorem WF.no_loop (hW : T.WF) {i p : Nat} {n : Nd} (hi : T.at_ i = some n) (hu : n.up = some p) : ¬ Anc T p i := by
  intro h
  obtain ⟨m, hm, _⟩ := hW.par _ _ _ hi hu
  have h1 := hW.anc_depth hm h
  have := hW.depth_up hi hu
  omega
theorem WF.up_ne (hW : T.WF) {i p : Nat} {n : Nd} (hi : T.at_ i = some n) (hu : n.up = some p) : p ≠ i := fun e => hW.no_loop hi hu (e ▸ .refl _)
theorem WF.kid_not (hW : T.WF) {i k : Nat} {n m : Nd} (hi : T.at_ i = some n) (hk : k ∉ n.kids) (hm : T.at_ k = some m) : m.up ≠ some i := by
  intro e
  obtain ⟨n', hn', h⟩ := hW.par _ _ _ hm e
  rw [hi] at hn'
  cases hn'
  exact hk h

/-- What plain and height see of a node: not its parent. -/
def _root_.Go.Proofs.Ytnnjlpkjpbbklaa.Nd.low (n : Nd) : Int × List (Bytes × Bytes) × Bytes × List Nat := (n.tag, n.attrs, n.text, n.kids)

theorem plain_congr {T T' : DT} (P : Nat → Prop) (hP : ∀ i, P i → (T.at_ i).map Nd.low = (T'.at_ i).map Nd.low ∧ ∀ n, T.at_ i = some n → ∀ k ∈ n.kids, P k) :
    ∀ f i, P i → T'.plainF f i = T.plainF f i ∧ T'.heightF f i = T.heightF f i := by
  intro f
  induction f with
  | zero => intro i _; exact ⟨rfl, rfl⟩
  | succ f ih =>
    intro i hi
    obtain ⟨h1, h2⟩ := hP i hi
    unfold plainF heightF
    cases hn : T.at_ i with
    | none =>
      rw [hn] at h1
      cases hn' : T'.at_ i with
      | none => exact ⟨rfl, rfl⟩
      | some n' => rw [hn'] at h1; cases h1
    | some n =>
      rw [hn] at h1
      cases hn' : T'.at_ i with
      | none => rw [hn'] at h1; cases h1
      | some n' =>
        rw [hn'] at h1
        simp only [Option.map_some, Option.some.injEq, Nd.low, Prod.mk.injEq] at h1
        obtain ⟨e1, e2, e3, e4⟩ := h1
        dsimp only
        rw [e1, e2, e3, ← e4]
        refine ⟨?_, ?_⟩
        · congr 1
          exact List.map_congr_left fun k hk => (ih k (h2 n hn k hk)).1
        · exact foldl_congr _ _ _ _ fun b k hk => by rw [(ih k (h2 n hn k hk)).2]

/-- Nodes that are not within kid are as they were: so is what plain and height tell of a node that kid is not within. -/
theorem WF.plain_apart (hW : T.WF) {T' : DT} {o : Nat} (ho : ∀ i n, T.at_ i = some n → ¬ Anc T o i → (T'.at_ i).map Nd.low = some n.low) :
    ∀ f i, (∃ n, T.at_ i = some n) → ¬ Anc T o i → T'.plainF f i = T.plainF f i ∧ T'.heightF f i = T.heightF f i := by
  intro f i hi hn
  refine plain_congr (T := T) (T' := T') (fun i => (∃ n, T.at_ i = some n) ∧ ¬ Anc T o i) (fun j hj => ?_) f i ⟨hi, hn⟩
  obtain ⟨⟨n, hj⟩, h⟩ := hj
  refine ⟨by rw [hj, ho j n hj h]; rfl, fun n' hn' k hk => ?_⟩
  rw [hj] at hn'; cases hn'
  obtain ⟨m, hm, hu⟩ := hW.kid _ _ _ hj hk
  exact ⟨⟨m, hm⟩, fun hx => h (hx.trans (.step hm hu (.refl _)))⟩
end DT
end Go.Proofs.Ytnnjlpkjpbbklaa
