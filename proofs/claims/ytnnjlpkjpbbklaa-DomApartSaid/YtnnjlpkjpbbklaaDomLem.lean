/-
  The tree as plain data: depth, root, within, height, plain: what one step of each is in a sound tree. No program in sight. Conditions: none.
-/
import Derived.Test.YtnnjlpkjpbbklaaDom
set_option linter.unusedVariables false
set_option linter.unusedSimpArgs false
namespace Go.Proofs.Ytnnjlpkjpbbklaa
namespace DT
variable {T : DT}

theorem at_lt {i : Nat} {n : Nd} (h : T.at_ i = some n) : i < T.nodes.length := by
  unfold at_ at h
  by_cases hi : i < T.nodes.length
  · exact hi
  · rw [List.getElem?_eq_none (by omega)] at h; cases h

theorem get_nat (i : Nat) : T.get (i : Int) = T.at_ i := by unfold get; rw [if_neg (by omega)]; simp
theorem get_neg {id : Int} (h : id < 0) : T.get id = none := by simp [get, h]
theorem get_some {id : Int} {n : Nd} (h : T.get id = some n) : 0 ≤ id ∧ T.at_ id.toNat = some n ∧ (id.toNat : Int) = id := by
  unfold get at h
  split at h
  · cases h
  · exact ⟨by omega, h, by omega⟩
theorem get_lt {id : Int} {n : Nd} (h : T.get id = some n) : id < T.nodes.length := by
  obtain ⟨h1, h2, h3⟩ := get_some h
  have := at_lt h2
  omega

theorem WF.nodes_le (h : T.WF) : T.nodes.length ≤ 2000 := by have := h.len; have := h.cap2; omega

/-- The rank is the depth. -/
theorem depthF_rank {d : Nat → Nat} (hd : ∀ i n, T.at_ i = some n → (n.up = none → d i = 0) ∧ (∀ p, n.up = some p → d i = d p + 1) ∧ (d i : Int) ≤ T.dep)
    (hp : ∀ i n p, T.at_ i = some n → n.up = some p → ∃ m, T.at_ p = some m ∧ i ∈ m.kids) :
    ∀ f i n, T.at_ i = some n → d i < f → T.depthF f i = d i := by
  intro f
  induction f with
  | zero => intro i n _ h; omega
  | succ f ih =>
    intro i n hi hf
    obtain ⟨h1, h2, _⟩ := hd i n hi
    unfold depthF
    cases hu : n.up with
    | none =>
      have e : T.up i = none := by simp [up, hi, hu]
      rw [e, h1 hu]
    | some p =>
      have e : T.up i = some p := by simp [up, hi, hu]
      obtain ⟨m, hm, _⟩ := hp i n p hi hu
      have := h2 p hu
      rw [e]
      show T.depthF f p + 1 = d i
      rw [ih p m hm (by omega)]
      omega

theorem WF.rank_depth (h : T.WF) : ∀ i n, T.at_ i = some n → (n.up = none → T.depthF fuel i = 0) ∧ (∀ p, n.up = some p → T.depthF fuel i = T.depthF fuel p + 1) ∧ (T.depthF fuel i : Int) ≤ T.dep := by
  obtain ⟨d, hd⟩ := h.rank
  have key : ∀ i n, T.at_ i = some n → T.depthF fuel i = d i := fun i n hi =>
    depthF_rank hd h.par fuel i n hi (by have := (hd i n hi).2.2; have := h.dep2; unfold fuel; omega)
  intro i n hi
  obtain ⟨h1, h2, h3⟩ := hd i n hi
  rw [key i n hi]
  refine ⟨h1, fun p hu => ?_, h3⟩
  obtain ⟨m, hm, _⟩ := h.par i n p hi hu
  rw [key p m hm]
  exact h2 p hu

theorem WF.depth_le (h : T.WF) {i : Nat} {n : Nd} (hi : T.at_ i = some n) : T.depthF fuel i ≤ 40 := by
  have := (h.rank_depth i n hi).2.2
  have := h.dep2
  omega
theorem WF.depth_root (h : T.WF) {i : Nat} {n : Nd} (hi : T.at_ i = some n) (hu : n.up = none) : T.depthF fuel i = 0 := (h.rank_depth i n hi).1 hu
theorem WF.depth_up (h : T.WF) {i p : Nat} {n : Nd} (hi : T.at_ i = some n) (hu : n.up = some p) : T.depthF fuel i = T.depthF fuel p + 1 := (h.rank_depth i n hi).2.1 p hu

/-- A fuel that is enough serves as any other. -/
theorem WF.within_enough (h : T.WF) (o : Nat) : ∀ f g i n, T.at_ i = some n → T.depthF fuel i < f → T.depthF fuel i < g → T.withinF f i o = T.withinF g i o := by
  intro f
  induction f with
  | zero => intro g i n _ hf; omega
  | succ f ih =>
    intro g i n hi hf hg
    obtain ⟨g, rfl⟩ : ∃ k, g = k + 1 := ⟨g - 1, by omega⟩
    unfold withinF
    cases hu : n.up with
    | none =>
      have e : T.up i = none := by simp [up, hi, hu]
      rw [e]
    | some p =>
      have e : T.up i = some p := by simp [up, hi, hu]
      obtain ⟨m, hm, _⟩ := h.par i n p hi hu
      have hd := h.depth_up hi hu
      rw [e]
      show (i == o || T.withinF f p o) = (i == o || T.withinF g p o)
      rw [ih g p m hm (by omega) (by omega)]

theorem WF.within_step (h : T.WF) {i : Nat} {n : Nd} (hi : T.at_ i = some n) (o : Nat) :
    T.within i o = (i == o || match n.up with | none => false | some p => T.within p o) := by
  have h1 := h.depth_le hi
  unfold within
  rw [h.within_enough o fuel (fuel + 1) i n hi (by unfold fuel at *; omega) (by unfold fuel at *; omega)]
  show (i == o || _) = _
  simp only [up, hi, Option.bind_some]
  rfl

theorem WF.root_enough (h : T.WF) : ∀ f g i n, T.at_ i = some n → T.depthF fuel i < f → T.depthF fuel i < g → T.rootF f i = T.rootF g i := by
  intro f
  induction f with
  | zero => intro g i n _ hf; omega
  | succ f ih =>
    intro g i n hi hf hg
    obtain ⟨g, rfl⟩ : ∃ k, g = k + 1 := ⟨g - 1, by omega⟩
    unfold rootF
    cases hu : n.up with
    | none =>
      have e : T.up i = none := by simp [up, hi, hu]
      rw [e]
    | some p =>
      have e : T.up i = some p := by simp [up, hi, hu]
      obtain ⟨m, hm, _⟩ := h.par i n p hi hu
      have hd := h.depth_up hi hu
      rw [e]
      exact ih g p m hm (by omega) (by omega)

theorem WF.root_step (h : T.WF) {i : Nat} {n : Nd} (hi : T.at_ i = some n) :
    T.root i = match n.up with | none => i | some p => T.root p := by
  have h1 := h.depth_le hi
  unfold root
  rw [h.root_enough fuel (fuel + 1) i n hi (by unfold fuel at *; omega) (by unfold fuel at *; omega)]
  show (match T.up i with | none => i | some p => T.rootF fuel p) = _
  simp only [up, hi, Option.bind_some]

theorem WF.kid_depth (h : T.WF) {i k : Nat} {n : Nd} (hi : T.at_ i = some n) (hk : k ∈ n.kids) : ∃ m, T.at_ k = some m ∧ m.up = some i ∧ T.depthF fuel k = T.depthF fuel i + 1 := by
  obtain ⟨m, hm, hu⟩ := h.kid i n k hi hk
  exact ⟨m, hm, hu, h.depth_up hm hu⟩

theorem foldl_congr {α β : Type} (l : List α) (f g : β → α → β) (b : β) (h : ∀ b, ∀ a ∈ l, f b a = g b a) : l.foldl f b = l.foldl g b := by
  induction l generalizing b with
  | nil => rfl
  | cons a l ih =>
    simp only [List.foldl_cons]
    rw [h b a (by simp), ih _ (fun b x hx => h b x (by simp [hx]))]

theorem WF.height_enough (h : T.WF) : ∀ f g i n, T.at_ i = some n → 41 ≤ f + T.depthF fuel i → 41 ≤ g + T.depthF fuel i → T.heightF f i = T.heightF g i := by
  intro f
  induction f with
  | zero => intro g i n hi hf; have := h.depth_le hi; omega
  | succ f ih =>
    intro g i n hi hf hg
    have hd := h.depth_le hi
    obtain ⟨g, rfl⟩ : ∃ k, g = k + 1 := ⟨g - 1, by omega⟩
    unfold heightF
    simp only [hi]
    refine foldl_congr _ _ _ _ fun b k hk => ?_
    obtain ⟨m, hm, _, he⟩ := h.kid_depth hi hk
    rw [ih g k m hm (by omega) (by omega)]

theorem WF.height_step (h : T.WF) {i : Nat} {n : Nd} (hi : T.at_ i = some n) :
    T.heightF fuel i = n.kids.foldl (fun b k => max b (T.heightF fuel k + 1)) 0 := by
  rw [h.height_enough fuel (fuel + 1) i n hi (by unfold fuel at *; omega) (by unfold fuel at *; omega)]
  show (match T.at_ i with | none => 0 | some n => n.kids.foldl (fun b k => max b (T.heightF fuel k + 1)) 0) = _
  simp only [hi]

theorem WF.plain_enough (h : T.WF) : ∀ f g i n, T.at_ i = some n → 41 ≤ f + T.depthF fuel i → 41 ≤ g + T.depthF fuel i → T.plainF f i = T.plainF g i := by
  intro f
  induction f with
  | zero => intro g i n hi hf; have := h.depth_le hi; omega
  | succ f ih =>
    intro g i n hi hf hg
    have hd := h.depth_le hi
    obtain ⟨g, rfl⟩ : ∃ k, g = k + 1 := ⟨g - 1, by omega⟩
    unfold plainF
    simp only [hi]
    congr 1
    refine List.map_congr_left fun k hk => ?_
    obtain ⟨m, hm, _, he⟩ := h.kid_depth hi hk
    exact ih g k m hm (by omega) (by omega)

theorem WF.plain_step (h : T.WF) {i : Nat} {n : Nd} (hi : T.at_ i = some n) :
    T.plainF fuel i = .mk n.tag n.attrs n.text (n.kids.map (T.plainF fuel)) := by
  rw [h.plain_enough fuel (fuel + 1) i n hi (by unfold fuel at *; omega) (by unfold fuel at *; omega)]
  show (match T.at_ i with | none => _ | some n => PNode.mk n.tag n.attrs n.text (n.kids.map (T.plainF fuel))) = _
  simp only [hi]

theorem foldl_max_le (l : List Nat) (f : Nat → Nat) (b c : Nat) (hb : b ≤ c) (h : ∀ k ∈ l, f k ≤ c) : l.foldl (fun b k => max b (f k)) b ≤ c := by
  induction l generalizing b with
  | nil => exact hb
  | cons a l ih =>
    simp only [List.foldl_cons]
    exact ih _ (by have := h a (by simp); omega) (fun k hk => h k (by simp [hk]))
theorem foldl_max_ge (l : List Nat) (f : Nat → Nat) (b : Nat) : b ≤ l.foldl (fun b k => max b (f k)) b := by
  induction l generalizing b with
  | nil => exact Nat.le_refl _
  | cons a l ih =>
    simp only [List.foldl_cons]
    exact Nat.le_trans (by omega) (ih _)
theorem foldl_max_mem (l : List Nat) (f : Nat → Nat) (b k : Nat) (hk : k ∈ l) : f k ≤ l.foldl (fun b k => max b (f k)) b := by
  induction l generalizing b with
  | nil => cases hk
  | cons a l ih =>
    simp only [List.foldl_cons]
    rcases List.mem_cons.1 hk with rfl | hk
    · exact Nat.le_trans (by omega) (foldl_max_ge l f _)
    · exact ih _ hk

/-- Height and depth together stay within the room. -/
theorem WF.height_le (h : T.WF) : ∀ m i n, T.at_ i = some n → T.depthF fuel i + m = T.dep.toNat → T.heightF fuel i ≤ m := by
  intro m
  induction m with
  | zero =>
    intro i n hi hm
    rw [h.height_step hi]
    cases hk : n.kids with
    | nil => simp
    | cons k l =>
      obtain ⟨m, hm', _, he⟩ := h.kid_depth hi (show k ∈ n.kids by simp [hk])
      have := (h.rank_depth k m hm').2.2
      have := h.dep1
      omega
  | succ m ih =>
    intro i n hi hm
    rw [h.height_step hi]
    refine foldl_max_le _ (fun k => T.heightF fuel k + 1) 0 _ (by omega) fun k hk => ?_
    obtain ⟨n', hn', _, he⟩ := h.kid_depth hi hk
    have := ih k n' hn' (by omega)
    show T.heightF fuel k + 1 ≤ m + 1
    omega
theorem WF.height_dep (h : T.WF) {i : Nat} {n : Nd} (hi : T.at_ i = some n) : (T.depthF fuel i : Int) + T.heightF fuel i ≤ T.dep := by
  have h1 := (h.rank_depth i n hi).2.2
  have h2 := h.dep1
  have := h.height_le (T.dep.toNat - T.depthF fuel i) i n hi (by omega)
  omega
end DT
end Go.Proofs.Ytnnjlpkjpbbklaa
