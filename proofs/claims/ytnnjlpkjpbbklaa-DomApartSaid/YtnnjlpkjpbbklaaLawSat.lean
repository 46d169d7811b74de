/-
  A tree under way in a law: what each call of package dom leaves. Conditions: the tree lies in memory and is sound.
-/
import Derived.Test.YtnnjlpkjpbbklaaDomCopy
import Derived.Test.YtnnjlpkjpbbklaaDomSet2
import Derived.Test.YtnnjlpkjpbbklaaDomLawQ
set_option linter.unusedVariables false
set_option linter.unusedSimpArgs false
namespace Go.Proofs.Ytnnjlpkjpbbklaa
open Go.RowKit

namespace DT
variable {T : DT}
theorem AB.put (hA : T.AB) {i : Nat} {n : Nd} (hi : T.at_ i = some n) {n' : Nd} (h : n'.attrs.length ≤ 200) : (T.put i (some n')).AB := by
  intro j m hj
  by_cases e : j = i
  · subst e; rw [at_put_same hi] at hj; cases hj; exact h
  · rw [at_put_ne _ e] at hj; exact hA j m hj
theorem AB.addAt (hA : T.AB) {n : Nd} (h : n.attrs.length ≤ 200) : (T.addAt n).AB := by
  intro j m hj
  rw [at_addAt] at hj
  split at hj
  · cases hj; exact h
  · exact hA j m hj
theorem AB.insertAt (hA : T.AB) {parent a kid : Nat} {p k : Nd} (hp : T.at_ parent = some p) (hk : T.at_ kid = some k) : (T.insertAt parent a kid p k).AB := by
  intro j m hj
  rw [at_insertAt hp hk] at hj
  split at hj
  · cases hj; exact hA _ k hk
  · split at hj
    · cases hj; exact hA _ p hp
    · exact hA j m hj
theorem AB.insert (hA : T.AB) (parent pos kid : Int) : (T.insert parent pos kid).2.AB := by
  by_cases h : (T.insert parent pos kid).1 = 0
  · obtain ⟨p, k, hp, hk, _, _, _, _, _, _, _, h8⟩ := insert_ok h
    rw [h8]
    exact hA.insertAt (get_some hp).2.1 (get_some hk).2.1
  · rw [insert_no h]; exact hA
theorem AB.remove (hA : T.AB) (hW : T.WF) (id : Int) : (T.remove id).2.AB := by
  rcases remove_cases hW id with ⟨_, e⟩ | ⟨n, _, _, e⟩ | ⟨n, up, p, hn, hu, hp, _, e⟩
  · rw [e]; exact hA
  · rw [e]; exact hA
  · rw [e]
    intro j m hj
    rw [at_removeAt (get_some hn).2.1 hp] at hj
    split at hj
    · cases hj; exact hA _ n (get_some hn).2.1
    · split at hj
      · cases hj; exact hA _ p hp
      · exact hA j m hj
theorem AB.drop (hA : T.AB) (hW : T.WF) (id : Int) : (T.drop id).2.AB := by
  unfold DT.drop
  cases hn : T.get id with
  | none => exact hA
  | some n =>
    dsimp only
    split
    · exact hA
    · intro j m hj
      exact hA j m ((hW.at_dropped _ _).1 hj).1
theorem AB.setAttrs (hA : T.AB) (id : Int) {al : List (Bytes × Bytes)} (h : al.length ≤ 200) : (T.setAttrs id al).2.AB := by
  unfold DT.setAttrs
  cases hn : T.get id with
  | none => exact hA
  | some n =>
    dsimp only
    split
    · exact hA
    · exact hA.put (get_some hn).2.1 h
theorem AB.setText (hA : T.AB) (id : Int) (s : Bytes) : (T.setText id s).2.AB := by
  unfold DT.setText
  cases hn : T.get id with
  | none => exact hA
  | some n =>
    dsimp only
    split
    · exact hA
    · split
      · exact hA
      · exact hA.put (get_some hn).2.1 (hA _ n (get_some hn).2.1)
theorem AB.setTag (hA : T.AB) (id tag : Int) : (T.setTag id tag).2.AB := by
  unfold DT.setTag
  cases hn : T.get id with
  | none => exact hA
  | some n =>
    dsimp only
    split
    · exact hA
    · split
      · exact hA
      · exact hA.put (get_some hn).2.1 (hA _ n (get_some hn).2.1)
theorem AB.element (hA : T.AB) (tag : Int) {al : List (Bytes × Bytes)} (h : al.length ≤ 200) : (T.element tag al).2.AB := by
  unfold DT.element
  split
  · exact hA
  · split
    · exact hA
    · exact hA.addAt h
theorem AB.text (hA : T.AB) (s : Bytes) : (T.text s).2.AB := by
  unfold DT.text
  split
  · exact hA
  · split
    · exact hA
    · exact hA.addAt (Nat.zero_le _)
theorem AB.new (cap dep : Int) : (DT.new cap dep).AB := by
  intro i n h
  cases i with
  | zero => simp [DT.new, at_] at h; subst h; exact Nat.zero_le _
  | succ i => simp [DT.new, at_] at h
end DT

/-- A tree that lay at w0 in the blocks S0, behind calls: it is T now; no other block has turned. -/
structure Sat (tb : Nat) (S0 : Nat → Prop) (w0 : World) (T : DT) (w : World) : Prop where
  mut_ : Mut tb T S0 w0 w
  wf : T.WF
  ab : T.AB

section
variable {tb : Nat} {S0 : Nat → Prop} {w0 w w' : World} {T T' : DT}
theorem Mut.seqs {nv1 : Value} {G1 : List (Option NG)} {T2 : DT} {S : Nat → Prop} {w w1 W w2 : World} (ho : Only S w w1) (hs : ∀ b ∈ repBlocks tb nv1 G1, S b ∨ w.heap.size ≤ b) (hb : Below w1.heap.size w1 W) (h : Mut tb T2 (fun b => b ∈ repBlocks tb nv1 G1) W w2) : Mut tb T2 S w w2 := by
  obtain ⟨⟨nv2, G2, hr2, hs2⟩, ho2⟩ := h
  have hz := ho.size
  have hz2 := hb.size
  refine ⟨⟨nv2, G2, hr2, fun b hb1 => ?_⟩, (ho.trans (Only.of_below (S := S) hb) fun i _ hi => hi).trans ho2 fun i hi hx => ?_⟩
  · rcases hs2 b hb1 with h1 | h1
    · exact hs b h1
    · right; omega
  · rcases hs i hx with h1 | h1
    · exact h1
    · omega

theorem Sat.keep (h : Sat tb S0 w0 T w) (hb : Below w.heap.size w w') : Sat tb S0 w0 T w' := ⟨h.mut_.then_ hb, h.wf, h.ab⟩
theorem Sat.start {nv : Value} {G : List (Option NG)} (h : Rep w tb T nv G) (hW : T.WF) (hA : T.AB) : Sat tb (fun b => b ∈ repBlocks tb nv G) w T w := ⟨Mut.of_below h (fun b hb => hb) (Below.refl _ _), hW, hA⟩
theorem Sat.lt (h : Sat tb S0 w0 T w) : tb < w.heap.size := by
  obtain ⟨⟨nv, G, hr, _⟩, _⟩ := h.mut_
  exact hr.tree.lt
theorem Sat.size (h : Sat tb S0 w0 T w) : w0.heap.size ≤ w.heap.size := h.mut_.2.size
/-- A call that changes it. -/
theorem Sat.op {P : Program} {f : FuncId} {args : Array Value} {v : Value} (h : Sat tb S0 w0 T w) (hop : ∀ nv G, Rep w tb T nv G → Calls P f args w fun e w' => e = .returned v ∧ Mut tb T' (fun b => b ∈ repBlocks tb nv G) w w') (hW : T'.WF) (hA : T'.AB) :
    Calls P f args w fun e w' => e = .returned v ∧ Sat tb S0 w0 T' w' := by
  obtain ⟨⟨nv, G, hr, hs⟩, ho⟩ := h.mut_
  refine (hop nv G hr).mono ?_
  rintro e w' ⟨he, hm⟩
  exact ⟨he, Mut.seqs ho hs (Below.refl _ _) hm, hW, hA⟩
/-- A call that only reads it. -/
theorem Sat.read {P : Program} {f : FuncId} {args : Array Value} {Q : Ending → World → Prop} (h : Sat tb S0 w0 T w) (hop : ∀ nv G, Rep w tb T nv G → Calls P f args w Q) : Calls P f args w Q := by
  obtain ⟨⟨nv, G, hr, hs⟩, ho⟩ := h.mut_
  exact hop nv G hr

theorem Sat.has (h : Sat tb S0 w0 T w) (id : Int) : Calls Try.prog 42 #[.pointer (some ⟨tb, 0, none⟩), I id] w fun e w' => e = .returned (.bool (T.has id)) ∧ w = w' := h.read fun _ _ hr => has_any hr h.wf.nodes_le id
theorem Sat.parent (h : Sat tb S0 w0 T w) (id : Int) : Calls Try.prog 49 #[.pointer (some ⟨tb, 0, none⟩), I id] w fun e w' => e = .returned (I (T.upOf id)) ∧ w = w' := h.read fun _ _ hr => parent_any hr h.wf.nodes_le id
theorem Sat.tag (h : Sat tb S0 w0 T w) (id : Int) : Calls Try.prog 61 #[.pointer (some ⟨tb, 0, none⟩), I id] w fun e w' => e = .returned (I (T.tagOf id)) ∧ w = w' := h.read fun _ _ hr => tag_any hr h.wf.nodes_le id
theorem Sat.index (h : Sat tb S0 w0 T w) (id : Int) : Calls Try.prog 50 #[.pointer (some ⟨tb, 0, none⟩), I id] w fun e w' => e = .returned (I (T.indexOf id)) ∧ w = w' := h.read fun _ _ hr => indexOf_any hr h.wf id
theorem Sat.depth (h : Sat tb S0 w0 T w) (id : Int) : Calls Try.prog 51 #[.pointer (some ⟨tb, 0, none⟩), I id] w fun e w' => e = .returned (I (T.depth id)) ∧ w = w' := h.read fun _ _ hr => depth_any hr h.wf id
theorem Sat.height (h : Sat tb S0 w0 T w) (id : Int) : Calls Try.prog 65 #[.pointer (some ⟨tb, 0, none⟩), I id] w fun e w' => e = .returned (I (T.height id)) ∧ w = w' := h.read fun _ _ hr => height_any hr h.wf id
theorem Sat.live (h : Sat tb S0 w0 T w) (id : Int) : Calls Try.prog 43 #[.pointer (some ⟨tb, 0, none⟩), I id] w fun e w' => e = .returned (.bool (T.live id)) ∧ w = w' := h.read fun _ _ hr => live_any hr h.wf id
theorem Sat.count (h : Sat tb S0 w0 T w) : Calls Try.prog 34 #[.pointer (some ⟨tb, 0, none⟩)] w fun e w' => e = .returned (I (T.count : Int)) ∧ w = w' := h.read fun _ _ hr => count_any hr
theorem Sat.room (h : Sat tb S0 w0 T w) : Calls Try.prog 60 #[.pointer (some ⟨tb, 0, none⟩)] w (Ret (.tuple #[I T.cap, I T.dep]) w) := h.read fun _ _ hr => (room_any hr).mono fun e w' ⟨he, n, hn⟩ => ⟨he, by rw [hn]; exact (Below.refl _ _).drewN' n⟩
theorem Sat.kids (h : Sat tb S0 w0 T w) (id : Int) : Calls Try.prog 64 #[.pointer (some ⟨tb, 0, none⟩), I id] w (RetRow 3 1 (T.kidsOf id).length (kidCells (T.kidsOf id)) w) := h.read fun _ _ hr => kids_any hr h.wf id
theorem Sat.plain (h : Sat tb S0 w0 T w) (id : Int) : Calls Try.prog 33 #[.pointer (some ⟨tb, 0, none⟩), I id] w (PlainRet (T.plain id) w) := h.read fun _ _ hr => plain_any hr h.wf h.ab id w (Below.refl _ _)
theorem Sat.copy (h : Sat tb S0 w0 T w) : Calls Try.prog 35 #[.pointer (some ⟨tb, 0, none⟩)] w fun e w' => e = .returned (.pointer (some ⟨w.heap.size, 0, none⟩)) ∧ Tree w' w.heap.size T (fun b => w.heap.size ≤ b) ∧ Below w.heap.size w w' := h.read fun _ _ hr => copy_any hr h.wf h.ab

theorem Sat.insert (h : Sat tb S0 w0 T w) (a b c : Int) : Calls Try.prog 36 #[.pointer (some ⟨tb, 0, none⟩), I a, I b, I c] w fun e w' => e = .returned (I (T.insert a b c).1) ∧ Sat tb S0 w0 (T.insert a b c).2 w' :=
  h.op (fun _ _ hr => insertNode_any hr (fun _ hb => hb) h.wf a b c) (h.wf.insert a b c) (h.ab.insert a b c)
theorem Sat.remove (h : Sat tb S0 w0 T w) (a : Int) : Calls Try.prog 37 #[.pointer (some ⟨tb, 0, none⟩), I a] w fun e w' => e = .returned (I (T.remove a).1) ∧ Sat tb S0 w0 (T.remove a).2 w' :=
  h.op (fun _ _ hr => removeNode_any hr (fun _ hb => hb) h.wf a) (h.wf.remove a) (h.ab.remove h.wf a)
theorem Sat.drop (h : Sat tb S0 w0 T w) (a : Int) : Calls Try.prog 40 #[.pointer (some ⟨tb, 0, none⟩), I a] w fun e w' => e = .returned (I (T.drop a).1) ∧ Sat tb S0 w0 (T.drop a).2 w' :=
  h.op (fun _ _ hr => dropNode_any hr (fun _ hb => hb) h.wf a) (h.wf.drop a) (h.ab.drop h.wf a)
theorem Sat.setTag (h : Sat tb S0 w0 T w) (a b : Int) : Calls Try.prog 44 #[.pointer (some ⟨tb, 0, none⟩), I a, I b] w fun e w' => e = .returned (I (T.setTag a b).1) ∧ Sat tb S0 w0 (T.setTag a b).2 w' :=
  h.op (fun _ _ hr => setTag_any hr (fun _ hb => hb) h.wf.nodes_le a b) (h.wf.setTag a b) (h.ab.setTag a b)
theorem Sat.setText (h : Sat tb S0 w0 T w) (a : Int) (s : Bytes) (hs : s.size ≤ 1000000) : Calls Try.prog 38 #[.pointer (some ⟨tb, 0, none⟩), I a, .string s] w fun e w' => e = .returned (I (T.setText a (anew s)).1) ∧ Sat tb S0 w0 (T.setText a (anew s)).2 w' :=
  h.op (fun _ _ hr => setText_any hr (fun _ hb => hb) h.wf.nodes_le a s hs) (h.wf.setText a (anew s)) (h.ab.setText a (anew s))
theorem Sat.setAttrs (h : Sat tb S0 w0 T w) (a : Int) {av : Value} {m : Nat} {al : List (Bytes × Bytes)} (ha : RowR w 2 av m (attrCells al)) (hm : m ≤ 200) : Calls Try.prog 39 #[.pointer (some ⟨tb, 0, none⟩), I a, av] w fun e w' => e = .returned (I (T.setAttrs a al).1) ∧ Sat tb S0 w0 (T.setAttrs a al).2 w' :=
  h.op (fun _ _ hr => setAttrs_any hr (fun _ hb => hb) h.wf.nodes_le a ha (by omega)) (h.wf.setAttrs a al) (h.ab.setAttrs a (by have := ha.1; rw [attrCells_length] at this; omega))
theorem Sat.element (h : Sat tb S0 w0 T w) (a : Int) {av : Value} {m : Nat} {al : List (Bytes × Bytes)} (ha : RowR w 2 av m (attrCells al)) (hm : m ≤ 200) : Calls Try.prog 59 #[.pointer (some ⟨tb, 0, none⟩), I a, av] w fun e w' => e = .returned (.tuple #[I (T.element a al).1.1, I (T.element a al).1.2]) ∧ Sat tb S0 w0 (T.element a al).2 w' :=
  h.op (fun _ _ hr => element_op_any hr (fun _ hb => hb) ⟨by have := h.wf.cap1; omega, h.wf.cap2⟩ h.wf.nodes_le a ha (by omega)) (h.wf.element a al) (h.ab.element a (by have := ha.1; rw [attrCells_length] at this; omega))
theorem Sat.text (h : Sat tb S0 w0 T w) (s : Bytes) (hs : s.size ≤ 1000000) : Calls Try.prog 56 #[.pointer (some ⟨tb, 0, none⟩), .string s] w fun e w' => e = .returned (.tuple #[I (T.text (anew s)).1.1, I (T.text (anew s)).1.2]) ∧ Sat tb S0 w0 (T.text (anew s)).2 w' :=
  h.op (fun _ _ hr => text_op_any hr (fun _ hb => hb) ⟨by have := h.wf.cap1; omega, h.wf.cap2⟩ h.wf.nodes_le s hs) (h.wf.text (anew s)) (h.ab.text (anew s))
theorem new_sat {w : World} {cap dep : Int} (h : newOk cap dep = true) :
    Calls Try.prog 53 #[I cap, I dep] w fun e w' => e = .returned (.tuple #[.pointer (some ⟨w.heap.size, 0, none⟩), I 0]) ∧ Sat w.heap.size (fun _ => False) w (DT.new cap dep) w' := by
  have hc : 1 ≤ cap ∧ cap ≤ 2000 ∧ 0 ≤ dep ∧ dep ≤ 40 := by simp [newOk] at h; omega
  refine (new_ok h).mono ?_
  rintro e w' ⟨he, ⟨nv, G, hr, hs⟩, hb⟩
  exact ⟨he, ⟨⟨nv, G, hr, fun b hb1 => .inr (hs b hb1)⟩, Only.of_below hb⟩, DT.new_wf hc.1 hc.2.1 hc.2.2.1 hc.2.2.2, DT.AB.new _ _⟩
end
end Go.Proofs.Ytnnjlpkjpbbklaa
