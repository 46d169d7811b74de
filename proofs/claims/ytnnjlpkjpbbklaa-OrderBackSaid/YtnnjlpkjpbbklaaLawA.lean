/-
  A tree under way in a law: what each call of package dom leaves; a nil tree; awake of chapter 8. Conditions: the tree lies in memory and is sound.
-/
import Derived.Test.YtnnjlpkjpbbklaaMemD
import Derived.Test.YtnnjlpkjpbbklaaMemB
import Derived.Test.YtnnjlpkjpbbklaaPureDom
import Derived.Test.YtnnjlpkjpbbklaaMemE
-- LawSat: A tree under way in a law: what each call of package dom leaves. Conditions: the tree lies in memory and is sound.
set_option linter.unusedVariables false
set_option linter.unusedSimpArgs false
namespace Go.Proofs.Ytnnjlpkjpbbklaa
open Go.RowKit

namespace DT
variable {T : DT}
theorem AB.put (hA : T.AB) {i : Nat} {n : Nd} (hi : T.at_ i = some n) {n' : Nd} (h : n'.attrs.length ≤ 200) : (T.put i (some n')).AB := by
  intro j m hj
  by_cases e : j = i
  · subst e; rw [at_put_same hi] at hj; cases hj; exact h
  · rw [at_put_ne _ e] at hj; exact hA j m hj
theorem AB.addAt (hA : T.AB) {n : Nd} (h : n.attrs.length ≤ 200) : (T.addAt n).AB := by
  intro j m hj
  rw [at_addAt] at hj
  split at hj
  · cases hj; exact h
  · exact hA j m hj
theorem AB.insertAt (hA : T.AB) {parent a kid : Nat} {p k : Nd} (hp : T.at_ parent = some p) (hk : T.at_ kid = some k) : (T.insertAt parent a kid p k).AB := by
  intro j m hj
  rw [at_insertAt hp hk] at hj
  split at hj
  · cases hj; exact hA _ k hk
  · split at hj
    · cases hj; exact hA _ p hp
    · exact hA j m hj
theorem AB.insert (hA : T.AB) (parent pos kid : Int) : (T.insert parent pos kid).2.AB := by
  by_cases h : (T.insert parent pos kid).1 = 0
  · obtain ⟨p, k, hp, hk, _, _, _, _, _, _, _, h8⟩ := insert_ok h
    rw [h8]
    exact hA.insertAt (get_some hp).2.1 (get_some hk).2.1
  · rw [insert_no h]; exact hA
theorem AB.remove (hA : T.AB) (hW : T.WF) (id : Int) : (T.remove id).2.AB := by
  rcases remove_cases hW id with ⟨_, e⟩ | ⟨n, _, _, e⟩ | ⟨n, up, p, hn, hu, hp, _, e⟩
  · rw [e]; exact hA
  · rw [e]; exact hA
  · rw [e]
    intro j m hj
    rw [at_removeAt (get_some hn).2.1 hp] at hj
    split at hj
    · cases hj; exact hA _ n (get_some hn).2.1
    · split at hj
      · cases hj; exact hA _ p hp
      · exact hA j m hj
theorem AB.drop (hA : T.AB) (hW : T.WF) (id : Int) : (T.drop id).2.AB := by
  unfold DT.drop
  cases hn : T.get id with
  | none => exact hA
  | some n =>
    dsimp only
    split
    · exact hA
    · intro j m hj
      exact hA j m ((hW.at_dropped _ _).1 hj).1
theorem AB.setAttrs (hA : T.AB) (id : Int) {al : List (Bytes × Bytes)} (h : al.length ≤ 200) : (T.setAttrs id al).2.AB := by
  unfold DT.setAttrs
  cases hn : T.get id with
  | none => exact hA
  | some n =>
    dsimp only
    split
    · exact hA
    · exact hA.put (get_some hn).2.1 h
theorem AB.setText (hA : T.AB) (id : Int) (s : Bytes) : (T.setText id s).2.AB := by
  unfold DT.setText
  cases hn : T.get id with
  | none => exact hA
  | some n =>
    dsimp only
    split
    · exact hA
    · split
      · exact hA
      · exact hA.put (get_some hn).2.1 (hA _ n (get_some hn).2.1)
theorem AB.setTag (hA : T.AB) (id tag : Int) : (T.setTag id tag).2.AB := by
  unfold DT.setTag
  cases hn : T.get id with
  | none => exact hA
  | some n =>
    dsimp only
    split
    · exact hA
    · split
      · exact hA
      · exact hA.put (get_some hn).2.1 (hA _ n (get_some hn).2.1)
theorem AB.element (hA : T.AB) (tag : Int) {al : List (Bytes × Bytes)} (h : al.length ≤ 200) : (T.element tag al).2.AB := by
  unfold DT.element
  split
  · exact hA
  · split
    · exact hA
    · exact hA.addAt h
theorem AB.text (hA : T.AB) (s : Bytes) : (T.text s).2.AB := by
  unfold DT.text
  split
  · exact hA
  · split
    · exact hA
    · exact hA.addAt (Nat.zero_le _)
theorem AB.new (cap dep : Int) : (DT.new cap dep).AB := by
  intro i n h
  cases i with
  | zero => simp [DT.new, at_] at h; subst h; exact Nat.zero_le _
  | succ i => simp [DT.new, at_] at h
end DT

/-- A tree that lay at w0 in the blocks S0, behind calls: it is T now; no other block has turned. -/
structure Sat (tb : Nat) (S0 : Nat → Prop) (w0 : World) (T : DT) (w : World) : Prop where
  mut_ : Mut tb T S0 w0 w
  wf : T.WF
  ab : T.AB

section
variable {tb : Nat} {S0 : Nat → Prop} {w0 w w' : World} {T T' : DT}
theorem Mut.seqs {nv1 : Value} {G1 : List (Option NG)} {T2 : DT} {S : Nat → Prop} {w w1 W w2 : World} (ho : Only S w w1) (hs : ∀ b ∈ repBlocks tb nv1 G1, S b ∨ w.heap.size ≤ b) (hb : Below w1.heap.size w1 W) (h : Mut tb T2 (fun b => b ∈ repBlocks tb nv1 G1) W w2) : Mut tb T2 S w w2 := by
  obtain ⟨⟨nv2, G2, hr2, hs2⟩, ho2⟩ := h
  have hz := ho.size
  have hz2 := hb.size
  refine ⟨⟨nv2, G2, hr2, fun b hb1 => ?_⟩, (ho.trans (Only.of_below (S := S) hb) fun i _ hi => hi).trans ho2 fun i hi hx => ?_⟩
  · rcases hs2 b hb1 with h1 | h1
    · exact hs b h1
    · right; omega
  · rcases hs i hx with h1 | h1
    · exact h1
    · omega

theorem Sat.keep (h : Sat tb S0 w0 T w) (hb : Below w.heap.size w w') : Sat tb S0 w0 T w' := ⟨h.mut_.then_ hb, h.wf, h.ab⟩
theorem Sat.start {nv : Value} {G : List (Option NG)} (h : Rep w tb T nv G) (hW : T.WF) (hA : T.AB) : Sat tb (fun b => b ∈ repBlocks tb nv G) w T w := ⟨Mut.of_below h (fun b hb => hb) (Below.refl _ _), hW, hA⟩
theorem Sat.lt (h : Sat tb S0 w0 T w) : tb < w.heap.size := by
  obtain ⟨⟨nv, G, hr, _⟩, _⟩ := h.mut_
  exact hr.tree.lt
theorem Sat.size (h : Sat tb S0 w0 T w) : w0.heap.size ≤ w.heap.size := h.mut_.2.size
/-- A call that changes it. -/
theorem Sat.op {P : Program} {f : FuncId} {args : Array Value} {v : Value} (h : Sat tb S0 w0 T w) (hop : ∀ nv G, Rep w tb T nv G → Calls P f args w fun e w' => e = .returned v ∧ Mut tb T' (fun b => b ∈ repBlocks tb nv G) w w') (hW : T'.WF) (hA : T'.AB) :
    Calls P f args w fun e w' => e = .returned v ∧ Sat tb S0 w0 T' w' := by
  obtain ⟨⟨nv, G, hr, hs⟩, ho⟩ := h.mut_
  refine (hop nv G hr).mono ?_
  rintro e w' ⟨he, hm⟩
  exact ⟨he, Mut.seqs ho hs (Below.refl _ _) hm, hW, hA⟩
/-- A call that only reads it. -/
theorem Sat.read {P : Program} {f : FuncId} {args : Array Value} {Q : Ending → World → Prop} (h : Sat tb S0 w0 T w) (hop : ∀ nv G, Rep w tb T nv G → Calls P f args w Q) : Calls P f args w Q := by
  obtain ⟨⟨nv, G, hr, hs⟩, ho⟩ := h.mut_
  exact hop nv G hr

theorem Sat.has (h : Sat tb S0 w0 T w) (id : Int) : Calls Try.prog 42 #[.pointer (some ⟨tb, 0, none⟩), I id] w fun e w' => e = .returned (.bool (T.has id)) ∧ w = w' := h.read fun _ _ hr => has_any hr h.wf.nodes_le id
theorem Sat.parent (h : Sat tb S0 w0 T w) (id : Int) : Calls Try.prog 49 #[.pointer (some ⟨tb, 0, none⟩), I id] w fun e w' => e = .returned (I (T.upOf id)) ∧ w = w' := h.read fun _ _ hr => parent_any hr h.wf.nodes_le id
theorem Sat.tag (h : Sat tb S0 w0 T w) (id : Int) : Calls Try.prog 61 #[.pointer (some ⟨tb, 0, none⟩), I id] w fun e w' => e = .returned (I (T.tagOf id)) ∧ w = w' := h.read fun _ _ hr => tag_any hr h.wf.nodes_le id
theorem Sat.index (h : Sat tb S0 w0 T w) (id : Int) : Calls Try.prog 50 #[.pointer (some ⟨tb, 0, none⟩), I id] w fun e w' => e = .returned (I (T.indexOf id)) ∧ w = w' := h.read fun _ _ hr => indexOf_any hr h.wf id
theorem Sat.depth (h : Sat tb S0 w0 T w) (id : Int) : Calls Try.prog 51 #[.pointer (some ⟨tb, 0, none⟩), I id] w fun e w' => e = .returned (I (T.depth id)) ∧ w = w' := h.read fun _ _ hr => depth_any hr h.wf id
theorem Sat.height (h : Sat tb S0 w0 T w) (id : Int) : Calls Try.prog 65 #[.pointer (some ⟨tb, 0, none⟩), I id] w fun e w' => e = .returned (I (T.height id)) ∧ w = w' := h.read fun _ _ hr => height_any hr h.wf id
theorem Sat.live (h : Sat tb S0 w0 T w) (id : Int) : Calls Try.prog 43 #[.pointer (some ⟨tb, 0, none⟩), I id] w fun e w' => e = .returned (.bool (T.live id)) ∧ w = w' := h.read fun _ _ hr => live_any hr h.wf id
theorem Sat.count (h : Sat tb S0 w0 T w) : Calls Try.prog 34 #[.pointer (some ⟨tb, 0, none⟩)] w fun e w' => e = .returned (I (T.count : Int)) ∧ w = w' := h.read fun _ _ hr => count_any hr
theorem Sat.room (h : Sat tb S0 w0 T w) : Calls Try.prog 60 #[.pointer (some ⟨tb, 0, none⟩)] w (Ret (.tuple #[I T.cap, I T.dep]) w) := h.read fun _ _ hr => (room_any hr).mono fun e w' ⟨he, n, hn⟩ => ⟨he, by rw [hn]; exact (Below.refl _ _).drewN' n⟩
theorem Sat.kids (h : Sat tb S0 w0 T w) (id : Int) : Calls Try.prog 64 #[.pointer (some ⟨tb, 0, none⟩), I id] w (RetRow 3 1 (T.kidsOf id).length (kidCells (T.kidsOf id)) w) := h.read fun _ _ hr => kids_any hr h.wf id
theorem Sat.plain (h : Sat tb S0 w0 T w) (id : Int) : Calls Try.prog 33 #[.pointer (some ⟨tb, 0, none⟩), I id] w (PlainRet (T.plain id) w) := h.read fun _ _ hr => plain_any hr h.wf h.ab id w (Below.refl _ _)
theorem Sat.copy (h : Sat tb S0 w0 T w) : Calls Try.prog 35 #[.pointer (some ⟨tb, 0, none⟩)] w fun e w' => e = .returned (.pointer (some ⟨w.heap.size, 0, none⟩)) ∧ Tree w' w.heap.size T (fun b => w.heap.size ≤ b) ∧ Below w.heap.size w w' := h.read fun _ _ hr => copy_any hr h.wf h.ab

theorem Sat.insert (h : Sat tb S0 w0 T w) (a b c : Int) : Calls Try.prog 36 #[.pointer (some ⟨tb, 0, none⟩), I a, I b, I c] w fun e w' => e = .returned (I (T.insert a b c).1) ∧ Sat tb S0 w0 (T.insert a b c).2 w' :=
  h.op (fun _ _ hr => insertNode_any hr (fun _ hb => hb) h.wf a b c) (h.wf.insert a b c) (h.ab.insert a b c)
theorem Sat.remove (h : Sat tb S0 w0 T w) (a : Int) : Calls Try.prog 37 #[.pointer (some ⟨tb, 0, none⟩), I a] w fun e w' => e = .returned (I (T.remove a).1) ∧ Sat tb S0 w0 (T.remove a).2 w' :=
  h.op (fun _ _ hr => removeNode_any hr (fun _ hb => hb) h.wf a) (h.wf.remove a) (h.ab.remove h.wf a)
theorem Sat.drop (h : Sat tb S0 w0 T w) (a : Int) : Calls Try.prog 40 #[.pointer (some ⟨tb, 0, none⟩), I a] w fun e w' => e = .returned (I (T.drop a).1) ∧ Sat tb S0 w0 (T.drop a).2 w' :=
  h.op (fun _ _ hr => dropNode_any hr (fun _ hb => hb) h.wf a) (h.wf.drop a) (h.ab.drop h.wf a)
theorem Sat.setTag (h : Sat tb S0 w0 T w) (a b : Int) : Calls Try.prog 44 #[.pointer (some ⟨tb, 0, none⟩), I a, I b] w fun e w' => e = .returned (I (T.setTag a b).1) ∧ Sat tb S0 w0 (T.setTag a b).2 w' :=
  h.op (fun _ _ hr => setTag_any hr (fun _ hb => hb) h.wf.nodes_le a b) (h.wf.setTag a b) (h.ab.setTag a b)
theorem Sat.setText (h : Sat tb S0 w0 T w) (a : Int) (s : Bytes) (hs : s.size ≤ 1000000) : Calls Try.prog 38 #[.pointer (some ⟨tb, 0, none⟩), I a, .string s] w fun e w' => e = .returned (I (T.setText a (anew s)).1) ∧ Sat tb S0 w0 (T.setText a (anew s)).2 w' :=
  h.op (fun _ _ hr => setText_any hr (fun _ hb => hb) h.wf.nodes_le a s hs) (h.wf.setText a (anew s)) (h.ab.setText a (anew s))
theorem Sat.setAttrs (h : Sat tb S0 w0 T w) (a : Int) {av : Value} {m : Nat} {al : List (Bytes × Bytes)} (ha : RowR w 2 av m (attrCells al)) (hm : m ≤ 200) : Calls Try.prog 39 #[.pointer (some ⟨tb, 0, none⟩), I a, av] w fun e w' => e = .returned (I (T.setAttrs a al).1) ∧ Sat tb S0 w0 (T.setAttrs a al).2 w' :=
  h.op (fun _ _ hr => setAttrs_any hr (fun _ hb => hb) h.wf.nodes_le a ha (by omega)) (h.wf.setAttrs a al) (h.ab.setAttrs a (by have := ha.1; rw [attrCells_length] at this; omega))
theorem Sat.element (h : Sat tb S0 w0 T w) (a : Int) {av : Value} {m : Nat} {al : List (Bytes × Bytes)} (ha : RowR w 2 av m (attrCells al)) (hm : m ≤ 200) : Calls Try.prog 59 #[.pointer (some ⟨tb, 0, none⟩), I a, av] w fun e w' => e = .returned (.tuple #[I (T.element a al).1.1, I (T.element a al).1.2]) ∧ Sat tb S0 w0 (T.element a al).2 w' :=
  h.op (fun _ _ hr => element_op_any hr (fun _ hb => hb) ⟨by have := h.wf.cap1; omega, h.wf.cap2⟩ h.wf.nodes_le a ha (by omega)) (h.wf.element a al) (h.ab.element a (by have := ha.1; rw [attrCells_length] at this; omega))
theorem Sat.text (h : Sat tb S0 w0 T w) (s : Bytes) (hs : s.size ≤ 1000000) : Calls Try.prog 56 #[.pointer (some ⟨tb, 0, none⟩), .string s] w fun e w' => e = .returned (.tuple #[I (T.text (anew s)).1.1, I (T.text (anew s)).1.2]) ∧ Sat tb S0 w0 (T.text (anew s)).2 w' :=
  h.op (fun _ _ hr => text_op_any hr (fun _ hb => hb) ⟨by have := h.wf.cap1; omega, h.wf.cap2⟩ h.wf.nodes_le s hs) (h.wf.text (anew s)) (h.ab.text (anew s))
theorem new_sat {w : World} {cap dep : Int} (h : newOk cap dep = true) :
    Calls Try.prog 53 #[I cap, I dep] w fun e w' => e = .returned (.tuple #[.pointer (some ⟨w.heap.size, 0, none⟩), I 0]) ∧ Sat w.heap.size (fun _ => False) w (DT.new cap dep) w' := by
  have hc : 1 ≤ cap ∧ cap ≤ 2000 ∧ 0 ≤ dep ∧ dep ≤ 40 := by simp [newOk] at h; omega
  refine (new_ok h).mono ?_
  rintro e w' ⟨he, ⟨nv, G, hr, hs⟩, hb⟩
  exact ⟨he, ⟨⟨nv, G, hr, fun b hb1 => .inr (hs b hb1)⟩, Only.of_below hb⟩, DT.new_wf hc.1 hc.2.1 hc.2.2.1 hc.2.2.2, DT.AB.new _ _⟩
end
end Go.Proofs.Ytnnjlpkjpbbklaa

-- Law08Awake: awake of chapter 8's statements: it returns true. Conditions: none.
namespace Go.Proofs.Ytnnjlpkjpbbklaa
open Go.RowKit

def aw0 : DT := DT.new 3 1
def aw1 : DT := (aw0.element 2 []).2
def aw2 : DT := (aw1.text (anew ⟨#[97]⟩)).2
def aw3 : DT := (aw2.insert 0 0 1).2
theorem aw_f1 : (aw0.element 2 []).1 = (1, 0) := by kernel_rfl
theorem aw_f2 : (aw1.text (anew ⟨#[97]⟩)).1 = (2, 0) := by kernel_rfl
theorem aw_f3 : (aw2.insert 0 0 1).1 = 0 := by kernel_rfl
theorem aw_f4 : (aw3.insert 1 0 2).1 = 4 := by kernel_rfl
theorem aw_f5 : (aw3.insert 1 0 2).2 = aw3 := DT.insert_no (by rw [aw_f4]; decide)
theorem aw_f6 : aw3.count = 3 := by kernel_rfl
theorem aw_f7 : aw3.live 1 = true := by kernel_rfl
theorem aw_f8 : aw3.live 2 = false := by kernel_rfl

set_option maxHeartbeats 1000000 in
theorem awake08_any {w : World} : Calls Try.prog 31 #[] w (Ret (.bool true) w) := by
  have H0 : Hid (Calls Try.prog 53 #[I 3, I 1] w fun e w' => e = .returned (.tuple #[.pointer (some ⟨w.heap.size, 0, none⟩), I 0]) ∧ Sat w.heap.size (fun _ => False) w aw0 w') := new_sat (by decide)
  have H1 : Hid (∀ W, Sat w.heap.size (fun _ => False) w aw0 W → Calls Try.prog 59 #[.pointer (some ⟨w.heap.size, 0, none⟩), I 2, .slice none 0 0] W fun e w' => e = .returned (.tuple #[I 1, I 0]) ∧ Sat w.heap.size (fun _ => False) w aw1 w') := by
    intro W h
    have := h.element 2 (al := []) (RowR.nil W 2) (by omega)
    rwa [aw_f1] at this
  have H2 : Hid (∀ W, Sat w.heap.size (fun _ => False) w aw1 W → Calls Try.prog 56 #[.pointer (some ⟨w.heap.size, 0, none⟩), .string ⟨#[97]⟩] W fun e w' => e = .returned (.tuple #[I 2, I 0]) ∧ Sat w.heap.size (fun _ => False) w aw2 w') := by
    intro W h
    have := h.text ⟨#[97]⟩ (by decide)
    rwa [aw_f2] at this
  have H3 : Hid (∀ W, Sat w.heap.size (fun _ => False) w aw2 W → Calls Try.prog 36 #[.pointer (some ⟨w.heap.size, 0, none⟩), I 0, I 0, I 1] W fun e w' => e = .returned (I 0) ∧ Sat w.heap.size (fun _ => False) w aw3 w') := by
    intro W h
    have := h.insert 0 0 1
    rwa [aw_f3] at this
  have H4 : Hid (∀ W, Sat w.heap.size (fun _ => False) w aw3 W → Calls Try.prog 36 #[.pointer (some ⟨w.heap.size, 0, none⟩), I 1, I 0, I 2] W fun e w' => e = .returned (I 4) ∧ Sat w.heap.size (fun _ => False) w aw3 w') := by
    intro W h
    have := h.insert 1 0 2
    rwa [aw_f4, aw_f5] at this
  have H5 : Hid (∀ W, Sat w.heap.size (fun _ => False) w aw3 W → Calls Try.prog 34 #[.pointer (some ⟨w.heap.size, 0, none⟩)] W fun e w' => e = .returned (I 3) ∧ W = w') := by
    intro W h
    have := h.count
    rwa [aw_f6] at this
  have H6 : Hid (∀ W, Sat w.heap.size (fun _ => False) w aw3 W → Calls Try.prog 43 #[.pointer (some ⟨w.heap.size, 0, none⟩), I 1] W fun e w' => e = .returned (.bool true) ∧ W = w') := by
    intro W h
    have := h.live 1
    rwa [aw_f7] at this
  have H7 : Hid (∀ W, Sat w.heap.size (fun _ => False) w aw3 W → Calls Try.prog 43 #[.pointer (some ⟨w.heap.size, 0, none⟩), I 2] W fun e w' => e = .returned (.bool false) ∧ W = w') := by
    intro W h
    have := h.live 2
    rwa [aw_f8] at this
  generalize aw0 = T0 at *
  generalize aw1 = T1 at *
  generalize aw2 = T2 at *
  generalize aw3 = T3 at *
  go_enter Try.func31, Try.ntmps31
  go_wp2_with (first
    | ((with_reducible refine H0.out.mono ?_); rintro e w1 ⟨rfl, hs⟩; have K1 := Lib.hid hs; clear hs)
    | ((with_reducible refine (H1.out _ K1.out).mono ?_); rintro e w2 ⟨rfl, hs⟩; have K2 := Lib.hid hs; clear hs)
    | ((with_reducible refine (H2.out _ K2.out).mono ?_); rintro e w3 ⟨rfl, hs⟩; have K3 := Lib.hid hs; clear hs)
    | ((with_reducible refine (H3.out _ K3.out).mono ?_); rintro e w4 ⟨rfl, hs⟩; have K4 := Lib.hid hs; clear hs)
    | ((with_reducible refine (H4.out _ K4.out).mono ?_); rintro e w5 ⟨rfl, hs⟩; have K5 := Lib.hid hs; clear hs)
    | ((with_reducible refine (H5.out _ K5.out).mono ?_); rintro e w' ⟨rfl, rfl⟩)
    | ((with_reducible refine (H6.out _ K5.out).mono ?_); rintro e w' ⟨rfl, rfl⟩)
    | ((with_reducible refine (H7.out _ K5.out).mono ?_); rintro e w' ⟨rfl, rfl⟩))
  go_ret
  exact ⟨rfl, K5.out.mut_.2.below fun k _ h => h⟩
end Go.Proofs.Ytnnjlpkjpbbklaa

-- DomNil: Package dom over a nil tree. Conditions: none.
namespace Go.Proofs.Ytnnjlpkjpbbklaa
open Go.RowKit

theorem nil_get {w : World} (id : Int) : Calls Try.prog 112 #[.pointer none, I id] w fun e w' => e = .returned (.pointer none) ∧ w = w' := by
  go_enter Try.func112, Try.ntmps112
  go_wp2_with fail
  go_ret
  exact ⟨rfl, rfl⟩

set_option maxRecDepth 100000 in
theorem nil_has {w : World} (id : Int) : Calls Try.prog 42 #[.pointer none, I id] w (Ret (.bool false) w) := by
  go_enter Try.func42, Try.ntmps42
  go_wp2_with (first | ((with_reducible refine (nil_get _).mono ?_); rintro e w' ⟨rfl, rfl⟩))
  go_ret
  exact ⟨rfl, (by repeat (first | exact Below.refl _ _ | assumption | (refine Below.setCell ?_ (by first | (simp; done) | (simp; omega) | omega) _) | (refine Below.alloc ?_ (by first | (simp; done) | (simp; omega) | omega) _) | (refine Below.drew ?_) | (refine Below.drewN' ?_ _)))⟩
set_option maxRecDepth 100000 in
theorem nil_tag {w : World} (id : Int) : Calls Try.prog 61 #[.pointer none, I id] w (Ret (I (-1)) w) := by
  go_enter Try.func61, Try.ntmps61
  go_wp2_with (first | ((with_reducible refine (nil_get _).mono ?_); rintro e w' ⟨rfl, rfl⟩))
  go_ret
  exact ⟨rfl, (by repeat (first | exact Below.refl _ _ | assumption | (refine Below.setCell ?_ (by first | (simp; done) | (simp; omega) | omega) _) | (refine Below.alloc ?_ (by first | (simp; done) | (simp; omega) | omega) _) | (refine Below.drew ?_) | (refine Below.drewN' ?_ _)))⟩
set_option maxRecDepth 100000 in
theorem nil_attrs {w : World} (id : Int) : Calls Try.prog 62 #[.pointer none, I id] w (Ret (.slice none 0 0) w) := by
  go_enter Try.func62, Try.ntmps62
  go_wp2_with (first | ((with_reducible refine (nil_get _).mono ?_); rintro e w' ⟨rfl, rfl⟩))
  go_ret
  exact ⟨rfl, (by repeat (first | exact Below.refl _ _ | assumption | (refine Below.setCell ?_ (by first | (simp; done) | (simp; omega) | omega) _) | (refine Below.alloc ?_ (by first | (simp; done) | (simp; omega) | omega) _) | (refine Below.drew ?_) | (refine Below.drewN' ?_ _)))⟩
set_option maxRecDepth 100000 in
theorem nil_told {w : World} (id : Int) : Calls Try.prog 63 #[.pointer none, I id] w (Ret (.string ⟨#[]⟩) w) := by
  go_enter Try.func63, Try.ntmps63
  go_wp2_with (first | ((with_reducible refine (nil_get _).mono ?_); rintro e w' ⟨rfl, rfl⟩))
  go_ret
  exact ⟨rfl, (by repeat (first | exact Below.refl _ _ | assumption | (refine Below.setCell ?_ (by first | (simp; done) | (simp; omega) | omega) _) | (refine Below.alloc ?_ (by first | (simp; done) | (simp; omega) | omega) _) | (refine Below.drew ?_) | (refine Below.drewN' ?_ _)))⟩
set_option maxRecDepth 100000 in
theorem nil_kids {w : World} (id : Int) : Calls Try.prog 64 #[.pointer none, I id] w (Ret (.slice none 0 0) w) := by
  go_enter Try.func64, Try.ntmps64
  go_wp2_with (first | ((with_reducible refine (nil_get _).mono ?_); rintro e w' ⟨rfl, rfl⟩))
  go_ret
  exact ⟨rfl, (by repeat (first | exact Below.refl _ _ | assumption | (refine Below.setCell ?_ (by first | (simp; done) | (simp; omega) | omega) _) | (refine Below.alloc ?_ (by first | (simp; done) | (simp; omega) | omega) _) | (refine Below.drew ?_) | (refine Below.drewN' ?_ _)))⟩
set_option maxRecDepth 100000 in
theorem nil_parent {w : World} (id : Int) : Calls Try.prog 49 #[.pointer none, I id] w (Ret (I (-1)) w) := by
  go_enter Try.func49, Try.ntmps49
  go_wp2_with (first | ((with_reducible refine (nil_get _).mono ?_); rintro e w' ⟨rfl, rfl⟩))
  go_ret
  exact ⟨rfl, (by repeat (first | exact Below.refl _ _ | assumption | (refine Below.setCell ?_ (by first | (simp; done) | (simp; omega) | omega) _) | (refine Below.alloc ?_ (by first | (simp; done) | (simp; omega) | omega) _) | (refine Below.drew ?_) | (refine Below.drewN' ?_ _)))⟩
set_option maxRecDepth 100000 in
theorem nil_depth {w : World} (id : Int) : Calls Try.prog 51 #[.pointer none, I id] w (Ret (I (-1)) w) := by
  go_enter Try.func51, Try.ntmps51
  go_wp2_with (first | ((with_reducible refine (nil_get _).mono ?_); rintro e w' ⟨rfl, rfl⟩))
  go_ret
  exact ⟨rfl, (by repeat (first | exact Below.refl _ _ | assumption | (refine Below.setCell ?_ (by first | (simp; done) | (simp; omega) | omega) _) | (refine Below.alloc ?_ (by first | (simp; done) | (simp; omega) | omega) _) | (refine Below.drew ?_) | (refine Below.drewN' ?_ _)))⟩
set_option maxRecDepth 100000 in
theorem nil_height {w : World} (id : Int) : Calls Try.prog 65 #[.pointer none, I id] w (Ret (I (-1)) w) := by
  go_enter Try.func65, Try.ntmps65
  go_wp2_with (first | ((with_reducible refine (nil_get _).mono ?_); rintro e w' ⟨rfl, rfl⟩))
  go_ret
  exact ⟨rfl, (by repeat (first | exact Below.refl _ _ | assumption | (refine Below.setCell ?_ (by first | (simp; done) | (simp; omega) | omega) _) | (refine Below.alloc ?_ (by first | (simp; done) | (simp; omega) | omega) _) | (refine Below.drew ?_) | (refine Below.drewN' ?_ _)))⟩
set_option maxRecDepth 100000 in
theorem nil_live {w : World} (id : Int) : Calls Try.prog 43 #[.pointer none, I id] w (Ret (.bool false) w) := by
  go_enter Try.func43, Try.ntmps43
  go_wp2_with (first | ((with_reducible refine (nil_get _).mono ?_); rintro e w' ⟨rfl, rfl⟩))
  go_ret
  exact ⟨rfl, (by repeat (first | exact Below.refl _ _ | assumption | (refine Below.setCell ?_ (by first | (simp; done) | (simp; omega) | omega) _) | (refine Below.alloc ?_ (by first | (simp; done) | (simp; omega) | omega) _) | (refine Below.drew ?_) | (refine Below.drewN' ?_ _)))⟩
set_option maxRecDepth 100000 in
theorem nil_count {w : World}  : Calls Try.prog 34 #[.pointer none] w (Ret (I 0) w) := by
  go_enter Try.func34, Try.ntmps34
  go_wp2_with fail
  go_ret
  exact ⟨rfl, (by repeat (first | exact Below.refl _ _ | assumption | (refine Below.setCell ?_ (by first | (simp; done) | (simp; omega) | omega) _) | (refine Below.alloc ?_ (by first | (simp; done) | (simp; omega) | omega) _) | (refine Below.drew ?_) | (refine Below.drewN' ?_ _)))⟩
set_option maxRecDepth 100000 in
theorem nil_room {w : World}  : Calls Try.prog 60 #[.pointer none] w (Ret (.tuple #[I 0, I 0]) w) := by
  go_enter Try.func60, Try.ntmps60
  go_wp2_with fail
  go_ret2
  exact ⟨rfl, (by repeat (first | exact Below.refl _ _ | assumption | (refine Below.setCell ?_ (by first | (simp; done) | (simp; omega) | omega) _) | (refine Below.alloc ?_ (by first | (simp; done) | (simp; omega) | omega) _) | (refine Below.drew ?_) | (refine Below.drewN' ?_ _)))⟩
set_option maxRecDepth 100000 in
theorem nil_insert {w : World} (a b c : Int) : Calls Try.prog 36 #[.pointer none, I a, I b, I c] w (Ret (I 1) w) := by
  go_enter Try.func36, Try.ntmps36
  go_wp2_with fail
  go_ret
  exact ⟨rfl, (by repeat (first | exact Below.refl _ _ | assumption | (refine Below.setCell ?_ (by first | (simp; done) | (simp; omega) | omega) _) | (refine Below.alloc ?_ (by first | (simp; done) | (simp; omega) | omega) _) | (refine Below.drew ?_) | (refine Below.drewN' ?_ _)))⟩
set_option maxRecDepth 100000 in
theorem nil_remove {w : World} (a : Int) : Calls Try.prog 37 #[.pointer none, I a] w (Ret (I 1) w) := by
  go_enter Try.func37, Try.ntmps37
  go_wp2_with (first | ((with_reducible refine (nil_get _).mono ?_); rintro e w' ⟨rfl, rfl⟩))
  go_ret
  exact ⟨rfl, (by repeat (first | exact Below.refl _ _ | assumption | (refine Below.setCell ?_ (by first | (simp; done) | (simp; omega) | omega) _) | (refine Below.alloc ?_ (by first | (simp; done) | (simp; omega) | omega) _) | (refine Below.drew ?_) | (refine Below.drewN' ?_ _)))⟩
set_option maxRecDepth 100000 in
theorem nil_drop {w : World} (a : Int) : Calls Try.prog 40 #[.pointer none, I a] w (Ret (I 1) w) := by
  go_enter Try.func40, Try.ntmps40
  go_wp2_with (first | ((with_reducible refine (nil_get _).mono ?_); rintro e w' ⟨rfl, rfl⟩))
  go_ret
  exact ⟨rfl, (by repeat (first | exact Below.refl _ _ | assumption | (refine Below.setCell ?_ (by first | (simp; done) | (simp; omega) | omega) _) | (refine Below.alloc ?_ (by first | (simp; done) | (simp; omega) | omega) _) | (refine Below.drew ?_) | (refine Below.drewN' ?_ _)))⟩
set_option maxRecDepth 100000 in
theorem nil_setTag {w : World} (a b : Int) : Calls Try.prog 44 #[.pointer none, I a, I b] w (Ret (I 1) w) := by
  go_enter Try.func44, Try.ntmps44
  go_wp2_with (first | ((with_reducible refine (nil_get _).mono ?_); rintro e w' ⟨rfl, rfl⟩))
  go_ret
  exact ⟨rfl, (by repeat (first | exact Below.refl _ _ | assumption | (refine Below.setCell ?_ (by first | (simp; done) | (simp; omega) | omega) _) | (refine Below.alloc ?_ (by first | (simp; done) | (simp; omega) | omega) _) | (refine Below.drew ?_) | (refine Below.drewN' ?_ _)))⟩
set_option maxRecDepth 100000 in
theorem nil_setAttrs {w : World} (a : Int) (A : Option Addr) (n c : Nat) : Calls Try.prog 39 #[.pointer none, I a, .slice A n c] w (Ret (I 1) w) := by
  go_enter Try.func39, Try.ntmps39
  go_wp2_with (first | ((with_reducible refine (nil_get _).mono ?_); rintro e w' ⟨rfl, rfl⟩))
  go_ret
  exact ⟨rfl, (by repeat (first | exact Below.refl _ _ | assumption | (refine Below.setCell ?_ (by first | (simp; done) | (simp; omega) | omega) _) | (refine Below.alloc ?_ (by first | (simp; done) | (simp; omega) | omega) _) | (refine Below.drew ?_) | (refine Below.drewN' ?_ _)))⟩
set_option maxRecDepth 100000 in
theorem nil_element {w : World} (a : Int) (A : Option Addr) (n c : Nat) : Calls Try.prog 59 #[.pointer none, I a, .slice A n c] w (Ret (.tuple #[I 0, I 1]) w) := by
  go_enter Try.func59, Try.ntmps59
  go_wp2_with fail
  go_ret2
  exact ⟨rfl, (by repeat (first | exact Below.refl _ _ | assumption | (refine Below.setCell ?_ (by first | (simp; done) | (simp; omega) | omega) _) | (refine Below.alloc ?_ (by first | (simp; done) | (simp; omega) | omega) _) | (refine Below.drew ?_) | (refine Below.drewN' ?_ _)))⟩
set_option maxRecDepth 100000 in
theorem nil_text {w : World} (s : Bytes) (hs : s.size ≤ 1000000) : Calls Try.prog 56 #[.pointer none, .string s] w (Ret (.tuple #[I 0, I 1]) w) := by
  have HA := Lib.hid (fun (W : World) => anew_any (w := W) s hs)
  go_enter Try.func56, Try.ntmps56
  go_wp2_with (first | ((with_reducible refine (HA.out _).mono ?_); rintro e w1 ⟨rfl, hb⟩; have hz_w1 := hb.size; (try simp only [World.size_alloc, World.size_setCell, World.size_drew, size_drewN'] at hz_w1); have hb_w1 : Below w.heap.size w w1 := Below.trans (by exact (by repeat (first | exact Below.refl _ _ | assumption | (refine Below.setCell ?_ (by first | (simp; done) | (simp; omega) | omega) _) | (refine Below.alloc ?_ (by first | (simp; done) | (simp; omega) | omega) _) | (refine Below.drew ?_) | (refine Below.drewN' ?_ _)))) (hb.mono (by first | (simp; done) | (simp; omega) | omega)); obtain ⟨hc_w1, hf_w1⟩ := bcell hb_w1; clear hb))
  go_ret2
  exact ⟨rfl, (by repeat (first | exact Below.refl _ _ | assumption | (refine Below.setCell ?_ (by first | (simp; done) | (simp; omega) | omega) _) | (refine Below.alloc ?_ (by first | (simp; done) | (simp; omega) | omega) _) | (refine Below.drew ?_) | (refine Below.drewN' ?_ _)))⟩
set_option maxRecDepth 100000 in
theorem nil_setText {w : World} (a : Int) (s : Bytes) (hs : s.size ≤ 1000000) : Calls Try.prog 38 #[.pointer none, I a, .string s] w (Ret (I 1) w) := by
  have HA := Lib.hid (fun (W : World) => anew_any (w := W) s hs)
  go_enter Try.func38, Try.ntmps38
  go_wp2_with (first | ((with_reducible refine (nil_get _).mono ?_); rintro e w' ⟨rfl, rfl⟩) | ((with_reducible refine (HA.out _).mono ?_); rintro e w1 ⟨rfl, hb⟩; have hz_w1 := hb.size; (try simp only [World.size_alloc, World.size_setCell, World.size_drew, size_drewN'] at hz_w1); have hb_w1 : Below w.heap.size w w1 := Below.trans (by exact (by repeat (first | exact Below.refl _ _ | assumption | (refine Below.setCell ?_ (by first | (simp; done) | (simp; omega) | omega) _) | (refine Below.alloc ?_ (by first | (simp; done) | (simp; omega) | omega) _) | (refine Below.drew ?_) | (refine Below.drewN' ?_ _)))) (hb.mono (by first | (simp; done) | (simp; omega) | omega)); obtain ⟨hc_w1, hf_w1⟩ := bcell hb_w1; clear hb))
  go_ret
  exact ⟨rfl, (by repeat (first | exact Below.refl _ _ | assumption | (refine Below.setCell ?_ (by first | (simp; done) | (simp; omega) | omega) _) | (refine Below.alloc ?_ (by first | (simp; done) | (simp; omega) | omega) _) | (refine Below.drew ?_) | (refine Below.drewN' ?_ _)))⟩
set_option maxRecDepth 100000 in
theorem nil_graft {w : World} (a b : Int) (t : Int) (A B : Option Addr) (n c m d : Nat) (s : Bytes) : Calls Try.prog 46 #[.pointer none, I a, I b, .agg #[I t, .slice A n c, .string s, .slice B m d]] w (Ret (.tuple #[I 0, I 1]) w) := by
  go_enter Try.func46, Try.ntmps46
  go_wp2_with (first | ((with_reducible refine (nil_get _).mono ?_); rintro e w' ⟨rfl, rfl⟩))
  go_ret2
  exact ⟨rfl, (by repeat (first | exact Below.refl _ _ | assumption | (refine Below.setCell ?_ (by first | (simp; done) | (simp; omega) | omega) _) | (refine Below.alloc ?_ (by first | (simp; done) | (simp; omega) | omega) _) | (refine Below.drew ?_) | (refine Below.drewN' ?_ _)))⟩
set_option maxRecDepth 100000 in
theorem nil_copy {w : World}  : Calls Try.prog 35 #[.pointer none] w (Ret (.pointer none) w) := by
  go_enter Try.func35, Try.ntmps35
  go_wp2_with fail
  go_ret
  exact ⟨rfl, (by repeat (first | exact Below.refl _ _ | assumption | (refine Below.setCell ?_ (by first | (simp; done) | (simp; omega) | omega) _) | (refine Below.alloc ?_ (by first | (simp; done) | (simp; omega) | omega) _) | (refine Below.drew ?_) | (refine Below.drewN' ?_ _)))⟩
theorem nil_index {w : World} (id : Int) : Calls Try.prog 50 #[.pointer none, I id] w (Ret (I (-1)) w) := by
  go_enter Try.func50, Try.ntmps50
  go_wp2_with (first | ((with_reducible refine ((nil_parent _)).mono ?_); rintro e w1 ⟨rfl, hb⟩; have hz_w1 := hb.size; (try simp only [World.size_alloc, World.size_setCell, World.size_drew, size_drewN'] at hz_w1); have hb_w1 : Below w.heap.size w w1 := Below.trans (by exact (by repeat (first | exact Below.refl _ _ | assumption | (refine Below.setCell ?_ (by first | (simp; done) | (simp; omega) | omega) _) | (refine Below.alloc ?_ (by first | (simp; done) | (simp; omega) | omega) _) | (refine Below.drew ?_) | (refine Below.drewN' ?_ _)))) (hb.mono (by first | (simp; done) | (simp; omega) | omega)); obtain ⟨hc_w1, hf_w1⟩ := bcell hb_w1; clear hb) | ((with_reducible refine (nil_get _).mono ?_); rintro e w' ⟨rfl, rfl⟩))
  go_ret
  exact ⟨rfl, (by repeat (first | exact Below.refl _ _ | assumption | (refine Below.setCell ?_ (by first | (simp; done) | (simp; omega) | omega) _) | (refine Below.alloc ?_ (by first | (simp; done) | (simp; omega) | omega) _) | (refine Below.drew ?_) | (refine Below.drewN' ?_ _)))⟩
theorem nil_plain {w : World} (id : Int) : Calls Try.prog 33 #[.pointer none, I id] w (PlainRet (.mk 0 [] ByteArray.empty []) w) := by
  go_enter Try.func33, Try.ntmps33
  go_wp2_with ((with_reducible refine (nil_get _).mono ?_); rintro e w' ⟨rfl, rfl⟩)
  have kF : At (w.alloc (.cells #[I 0, .slice none 0 0, .string ⟨#[]⟩, .slice none 0 0] 41)) w.heap.size 41 #[I 0, .slice none 0 0, .string ⟨#[]⟩, .slice none 0 0] := At.fresh _ _ _ rfl
  have kFc := kF.cell
  exact bodyPost_ret (v := .agg #[I 0, .slice none 0 0, .string ⟨#[]⟩, .slice none 0 0]) (by simp [results, Try.results33, go_sem, kFc]) rfl ⟨.mk 0 [] ByteArray.empty (.slice none 0 0) (.slice none 0 0) [], rfl, rfl, .mk (RowQ.nil _ _ _) (RowQ.nil _ _ _) (fun k hk => by cases hk), (by repeat (first | exact Below.refl _ _ | assumption | (refine Below.setCell ?_ (by first | (simp; done) | (simp; omega) | omega) _) | (refine Below.alloc ?_ (by first | (simp; done) | (simp; omega) | omega) _) | (refine Below.drew ?_) | (refine Below.drewN' ?_ _)))⟩
end Go.Proofs.Ytnnjlpkjpbbklaa

-- LawSatG: A tree under way in a law, and Graft. Conditions: the tree lies in memory and is sound.
namespace Go.Proofs.Ytnnjlpkjpbbklaa
open Go.RowKit

namespace DT
variable {T : DT}
theorem AB.link (hA : T.AB) (id kid : Nat) : (T.link id kid).AB := by
  unfold DT.link
  split
  · rename_i p k hp hk
    exact hA.insertAt hp hk
  · exact hA
theorem AB.graftP (f : Bytes → Bytes) : ∀ (n : PNode) (T : DT), T.AB → n.small → (DT.graftP f n T).2.AB := by
  intro n
  induction n using PNode.ind with
  | h t a x ks ih =>
    intro T hA hs
    unfold PNode.small at hs
    unfold DT.graftP
    have key : ∀ (ks : List PNode) (id : Nat) (T : DT), (∀ k ∈ ks, ∀ T : DT, T.AB → k.small → (DT.graftP f k T).2.AB) → T.AB → PNode.smallL ks → (DT.graftL f ks id T).AB := by
      intro ks
      induction ks with
      | nil => intro id T _ h _; exact h
      | cons k ks ih2 =>
        intro id T ih h hs
        unfold PNode.smallL at hs
        unfold DT.graftL
        exact ih2 id _ (fun k' hk' => ih k' (by simp [hk'])) ((ih k (by simp) T h hs.1).link id _) hs.2
    exact key ks _ _ ih (hA.addAt hs.1) hs.2.2
theorem AB.graft (hA : T.AB) (hW : T.WF) (f : Bytes → Bytes) (parent pos : Int) {n : PNode} (hs : n.small) : (T.graft f parent pos n).2.AB := by
  rcases hW.graft_spec (f := f) parent pos n with ⟨e, _, h⟩ | ⟨p, T', id, m, _, _, _, _, _, hm, _, hp, _, _, _, _, _, hg, h2⟩
  · rw [h]; exact hA
  · rw [h2]
    have h1 := AB.graftP f n T hA hs
    rw [hg] at h1
    exact AB.insertAt h1 hp hm
end DT

section
variable {tb : Nat} {S0 : Nat → Prop} {w0 w : World} {T : DT}
theorem Sat.graft (h : Sat tb S0 w0 T w) (a b : Int) {V : VN} {R : Nat → Prop} (hP : PV w R V) (hR : ∀ b, R b → b < w0.heap.size ∧ ¬ S0 b) (hs : V.node.small) (hz : V.node.size ≤ 100000) :
    Calls Try.prog 46 #[.pointer (some ⟨tb, 0, none⟩), I a, I b, V.agg] w fun e w' => e = .returned (.tuple #[I (T.graft anew a b V.node).1.1, I (T.graft anew a b V.node).1.2]) ∧ Sat tb S0 w0 (T.graft anew a b V.node).2 w' := by
  obtain ⟨⟨nv, G, hr, hs'⟩, ho⟩ := h.mut_
  have hz0 := ho.size
  refine (graft_any hr (S := fun b => b ∈ repBlocks tb nv G) (fun _ hb => hb) h.wf a b hP (fun x hx => ⟨by have := (hR x hx).1; omega, fun hm => ?_⟩) hs hz).mono ?_
  · rcases hs' x hm with h1 | h1
    · exact (hR x hx).2 h1
    · have := (hR x hx).1; omega
  · rintro e w' ⟨he, hm⟩
    exact ⟨he, Mut.seq ho hs' (Below.refl _ _) hm, h.wf.graft a b V.node, h.ab.graft h.wf anew a b hs⟩

end
end Go.Proofs.Ytnnjlpkjpbbklaa
