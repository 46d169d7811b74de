/-
  Plain of package dom. Conditions: the tree lies in memory and is sound; no node has more than 200 attributes.
-/
import Derived.Test.YtnnjlpkjpbbklaaNodeSt
import Derived.Deep.RegionLaw
set_option linter.unusedVariables false
set_option linter.unusedSimpArgs false
namespace Go.Proofs.Ytnnjlpkjpbbklaa
open Go.RowKit

/-- No node has very many attributes. -/
def DT.AB (T : DT) : Prop := ∀ i n, T.at_ i = some n → n.attrs.length ≤ 200

def PlainRet (n : PNode) (w : World) (e : Ending) (w' : World) : Prop := ∃ V : VN, e = .returned V.agg ∧ V.node = n ∧ PV w' (Since w.heap.size w') V ∧ Below w.heap.size w w'

theorem cell3_of {w' : World} {b : Nat} {t : TypeId} {c0 c1 c2 c3 : Value} (h : At w' b t #[c0, c1, c2, c3]) : w'.cell? ⟨b, 3, none⟩ = some c3 := h.cell 3

theorem VN.one {w : World} {R : Nat → Prop} {V : VN} (h : PV w R V) : ∀ u ∈ V.cells, u.oneCell' = true := by
  cases h with
  | mk ha hk _ =>
    obtain ⟨A, c, rfl, _⟩ := ha.form
    obtain ⟨A', c', rfl, _⟩ := hk.form
    intro u hu
    simp only [VN.cells, List.mem_cons, List.not_mem_nil, or_false] at hu
    rcases hu with rfl | rfl | rfl | rfl <;> rfl

theorem VN.forms {w : World} {R : Nat → Prop} {t : Int} {al : List (Bytes × Bytes)} {x : Bytes} {av kv : Value} {ks : List VN} (h : PV w R (.mk t al x av kv ks)) : ∃ a5 n5 c5 a6 n6 c6, av = .slice a5 n5 c5 ∧ kv = .slice a6 n6 c6 := by
  cases h with
  | mk ha hk _ =>
    obtain ⟨A, c, rfl, _⟩ := ha.form
    obtain ⟨A', c', rfl, _⟩ := hk.form
    exact ⟨_, _, _, _, _, _, rfl, rfl⟩

/-- Where the loop of Plain stands. -/
structure PlSt (f : Nat → PNode) (W0 : World) (P : Nat) (n : Nd) (al : Value) (k : Nat) (Vs : List VN) (A2 : Option Addr) (c2 : Nat) (wr : World) : Prop where
  len : Vs.length = k
  told : Vs.map VN.node = (n.kids.take k).map f
  out : At wr P 41 #[I n.tag, al, .string n.text, .slice A2 k c2]
  res : At wr W0.heap.size 41 #[I 0, .slice none 0 0, .string ⟨#[]⟩, .slice none 0 0]
  attrs : wr.ownsRow W0.heap.size 55 2 al n.attrs.length (attrCells n.attrs)
  row : NSt W0.heap.size (fun b => b = P ∨ b = W0.heap.size ∨ al.ownBlock = some b) Vs (.slice A2 k c2) wr
  below : Below W0.heap.size W0 wr
  lt : W0.heap.size < P
  ne : ∀ b, al.ownBlock = some b → b ≠ P ∧ b ≠ W0.heap.size

theorem own_same {w w' : World} {base : Nat} {e : TypeId} {size : Nat} {v : Value} {n : Nat} {xs : List Value} (h : w.ownsRow base e size v n xs) (hs : ∀ b, v.ownBlock = some b → w'.heap[b]? = w.heap[b]?) : w'.ownsRow base e size v n xs := by
  obtain ⟨h1, h2⟩ := h
  refine ⟨h1, ?_⟩
  rcases h2 with hn | ⟨g, cap, cur, rfl, hb, hg, r⟩
  · exact .inl hn
  · exact .inr ⟨g, cap, cur, rfl, hb, by rw [hs g rfl]; exact hg, r⟩

theorem PlSt.step {f : Nat → PNode} {W0 : World} {P : Nat} {n : Nd} {al : Value} {k : Nat} {Vs : List VN} {A2 : Option Addr} {c2 : Nat} {wr w2 w3 : World} (h : PlSt f W0 P n al k Vs A2 c2 wr) {kk : Nat} (hk : n.kids[k]? = some kk) {V : VN}
    (hV : V.node = f kk) (hP : PV w2 (Since wr.heap.size w2) V) (hb : Below wr.heap.size wr w2) {o : Obj} {g cap : Nat} (hown : w3.ownsRow W0.heap.size 41 4 (.slice (some ⟨g, 0, none⟩) (k + 1) cap) (k + 1) (kidsCells Vs ++ V.cells))
    (hg : (w2.alloc o).grownBy w3 (Value.slice A2 k c2).ownBlock) (hlie : (Value.slice A2 k c2).ownBlock = some g ∨ g = w2.heap.size + 1) :
    PlSt f W0 P n al (k + 1) (Vs ++ [V]) (some ⟨g, 0, none⟩) cap (w3.setCell ⟨P, 3, none⟩ (.slice (some ⟨g, 0, none⟩) (k + 1) cap)) := by
  have hPl := h.out.lt
  have hz := hb.size
  have hz3 := hg.size
  rw [World.size_alloc] at hz3
  have hkl := (List.getElem?_eq_some_iff.1 hk).1
  have hbz := h.below.size
  have hrl := h.res.lt
  have hal := own_ge h.attrs
  have hX : ∀ b, (b = P ∨ b = W0.heap.size ∨ al.ownBlock = some b) → b < wr.heap.size := by
    rintro b (rfl | rfl | e)
    · exact hPl
    · exact hrl
    · exact (hal b e).2
  have hrow : ∀ b, (b = P ∨ b = W0.heap.size ∨ al.ownBlock = some b) → (Value.slice A2 k c2).ownBlock ≠ some b := fun b hb1 e => h.row.apart b e hb1
  have hblk : ∀ b, b < wr.heap.size → (Value.slice A2 k c2).ownBlock ≠ some b → w3.heap[b]? = wr.heap[b]? := by
    intro b hb1 hne
    rw [hg.block b (by rw [World.size_alloc]; omega) (fun e => hne e.symm), Below.heap_alloc _ _ _ (by omega)]
    exact hb.block b hb1
  refine ⟨by rw [List.length_append, h.len]; rfl, ?_, ?_, ?_, ?_, ?_, ?_, h.lt, h.ne⟩
  · rw [List.map_append, h.told, List.take_add_one, hk, List.map_append]
    simp [hV]
  · exact At.set' (cs := #[I n.tag, al, .string n.text, .slice A2 k c2]) ((hblk P hPl (hrow P (.inl rfl))).trans h.out) rfl
  · have h3 : At w3 W0.heap.size 41 #[I 0, .slice none 0 0, .string ⟨#[]⟩, .slice none 0 0] := (hblk W0.heap.size hrl (hrow _ (.inr (.inl rfl)))).trans h.res
    exact h3.far (p := ⟨P, 3, none⟩) (by have := h.lt; show _ ≠ P; omega) _
  · refine own_same h.attrs fun b hb1 => ?_
    rw [Below.heap_setCell _ _ _ _ (h.ne b hb1).1]
    exact hblk b (hal b hb1).2 (hrow b (.inr (.inr hb1)))
  · have h1 := h.row.step (w1 := w2) (w2 := w2.alloc o) (w3 := w3) (w4 := w3.setCell ⟨P, 3, none⟩ (.slice (some ⟨g, 0, none⟩) (k + 1) cap)) hX hbz hb hP ((Below.refl _ _).alloc (Nat.le_refl _) _) (g := g) (cap := cap) (by rw [h.len]; exact hown) hg (by rw [World.size_alloc]; exact hlie) (World.size_setCell _ _ _) (fun b hb1 => Below.heap_setCell _ _ _ _ (fun e => hb1 (.inl e)))
    rw [h.len] at h1
    exact h1
  · refine Below.setCell ?_ (by have := h.lt; show _ ≤ P; omega) _
    refine ⟨hg.os.trans (hb.os.trans h.below.os), hg.tape.trans (hb.tape.trans h.below.tape), hg.output.trans (hb.output.trans h.below.output), by omega, fun b hb1 => ?_⟩
    rw [hblk b (by omega) (fun e => by have := (own_ge h.row.row b e).1; omega)]
    exact h.below.block b hb1

theorem PlSt.done {f : Nat → PNode} {W0 : World} {P : Nat} {n : Nd} {al : Value} {k : Nat} {Vs : List VN} {A2 : Option Addr} {c2 : Nat} {wr w' : World} (h : PlSt f W0 P n al k Vs A2 c2 wr) (hk : n.kids.length = k)
    (hblk : ∀ b, b ≠ W0.heap.size → w'.heap[b]? = wr.heap[b]?) (hz : w'.heap.size = wr.heap.size) : (VN.mk n.tag n.attrs n.text al (.slice A2 k c2) Vs).node = .mk n.tag n.attrs n.text (n.kids.map f) ∧ PV w' (Since W0.heap.size w') (.mk n.tag n.attrs n.text al (.slice A2 k c2) Vs) := by
  constructor
  · unfold VN.node
    rw [VN.nodeL_map, h.told, List.take_of_length_le (by omega)]
  · have hs := h.attrs
    have hr := h.row.row
    rw [h.len] at hr
    have h1 : w'.ownsRow W0.heap.size 55 2 al n.attrs.length (attrCells n.attrs) := own_same h.attrs fun b hb => hblk b (h.ne b hb).2
    have h2 : w'.ownsRow W0.heap.size 41 4 (.slice A2 k c2) k (kidsCells Vs) := own_same hr fun b hb => hblk b fun e => h.row.apart b hb (.inr (.inl e))
    refine .mk (own_rowQ h1 (by omega)) ?_ fun V hV => ?_
    · rw [h.len]; exact own_rowQ h2 (by omega)
    · refine ((h.row.kids V hV).keep fun b hb => hblk b fun e => hb.2.2.1 (.inr (.inl e))).mono fun b hb => ⟨hb.1, by rw [hz]; exact hb.2.1⟩

section
variable {w : World} {tb : Nat} {T : DT} {nv : Value} {G : List (Option NG)}

theorem node_cells {w' : World} {b : Nat} {t : TypeId} {c0 c1 c2 c3 c4 : Value} (h : At w' b t #[c0, c1, c2, c3, c4]) : w'.cell? ⟨b, 0, none⟩ = some c0 ∧ w'.cell? ⟨b, 1, none⟩ = some c1 ∧ w'.cell? ⟨b, 2, none⟩ = some c2 :=
  ⟨h.cell 0, h.cell 1, h.cell 2⟩

set_option maxRecDepth 100000 in
set_option maxHeartbeats 2000000 in
theorem plain_at (h : Rep w tb T nv G) (hW : T.WF) (hA : T.AB) : ∀ (f : Nat) (i : Nat) (n : Nd), T.at_ i = some n → 41 ≤ f + T.depthF DT.fuel i → ∀ W, Below w.heap.size w W →
    Calls Try.prog 33 #[.pointer (some ⟨tb, 0, none⟩), I (i : Int)] W (PlainRet (T.plainF DT.fuel i) W) := by
  intro f
  induction f with
  | zero => intro i n hi hf; have := hW.depth_le hi; omega
  | succ f ih =>
    intro i n hi hf W0 hb0
    have hl := hW.nodes_le
    have hn : T.get (i : Int) = some n := by rw [DT.get_nat]; exact hi
    have h' := h.keep hb0
    obtain ⟨g, hr, hgi, H⟩ := get_some h' hl hn
    have HG : Hid (∀ (W : World), Below W0.heap.size W0 W → Calls Try.prog 112 #[.pointer (some ⟨tb, 0, none⟩), .int .i64 (i : Int)] W fun e w' => e = .returned (.pointer (some ⟨g.b, 0, none⟩)) ∧ W = w') := by
      obtain ⟨p, hp, HG⟩ := get_ptr h' hl (i : Int)
      obtain ⟨g', hp', _, hg'⟩ := h'.ptr_some hn
      rw [hg'] at hgi
      obtain rfl := Option.some.inj (Option.some.inj hgi)
      rw [hp] at hp'
      cases hp'
      exact HG
    have hkl := kids_len hW hi
    have hal := hA i n hi
    have e : T.plainF DT.fuel i = .mk n.tag n.attrs n.text (n.kids.map (T.plainF DT.fuel)) := hW.plain_step hi
    have hgl := hr.1.lt
    obtain ⟨AA, acap, hav, _, _, _⟩ := hr.2.1.form
    obtain ⟨KA, kcap, hkv, hkcap, hkmx, hKA⟩ := hr.2.2.form
    have HC := Lib.hid (fun (W : World) (hb : Below W0.heap.size W0 W) => cloneAttr_any (hr.2.1.keep hb) (by omega) (attrCells_one n.attrs))
    have hN := hr.1
    rw [hav] at HC hN
    rw [hkv] at hN
    have hcn := hN.cell
    have HN := Lib.hid hN
    have IH : Hid (∀ k ∈ n.kids, ∀ W, Below w.heap.size w W → Calls Try.prog 33 #[.pointer (some ⟨tb, 0, none⟩), I (k : Int)] W (PlainRet (T.plainF DT.fuel k) W)) := by
      intro k hk
      obtain ⟨m, hm, _, hd⟩ := hW.kid_depth hi hk
      exact ih k m hm (by omega)
    have HK : Hid (∀ (j k : Nat), n.kids[j]? = some k → ∃ a, KA = some ⟨a, 0, none⟩ ∧ a < W0.heap.size ∧ W0.cell? ⟨a, j, none⟩ = some (.int .i64 (k : Int))) := by
      intro j k hjk
      obtain ⟨hj, e⟩ := List.getElem?_eq_some_iff.1 hjk
      obtain ⟨ga, cap', hv', _, _, hgl', hcell⟩ := hr.2.2.open_ (by omega)
      rw [hkv] at hv'
      injection hv' with h1 h2 h3
      exact ⟨ga, h1, hgl', by rw [hcell j hj, kidCells_get _ _ hj, e]⟩
    rw [e]
    clear h h' hn e hr hav hkv ih H hgi hN hi hW hA hf hKA
    have HB0 := Lib.hid hb0
    clear hb0
    generalize hm : n.kids.length = m at *
    generalize ham : n.attrs.length = am at *
    have HM := Lib.hid (And.intro hm ham)
    have hml : ((m : Nat) : Int) ≤ 2000 := by omega
    clear hm ham
    obtain ⟨i0, hi0, hz0, hz1, hz2⟩ := info_parts infoNode
    go_enter Try.func33, Try.ntmps33
    go_upto_region 4 with ((with_reducible refine (HG.out _ (by repeat (first | exact Below.refl _ _ | assumption | (refine Below.setCell ?_ (by first | (simp; done) | (simp; omega) | omega) _) | (refine Below.alloc ?_ (by first | (simp; done) | (simp; omega) | omega) _) | (refine Below.drew ?_) | (refine Below.drewN' ?_ _)))).mono ?_); rintro e w' ⟨rfl, rfl⟩)
    go_cut [6] (fun s6 wc => ∃ P A1 c1, s6 = .pointer (some ⟨P, 0, none⟩) ∧ At wc P 41 #[I n.tag, .slice A1 am c1, .string n.text, .slice none 0 0] ∧ wc.ownsRow W0.heap.size 55 2 (.slice A1 am c1) am (attrCells n.attrs) ∧ (∀ b, (Value.slice A1 am c1).ownBlock = some b → b ≠ P ∧ b ≠ W0.heap.size) ∧ At wc W0.heap.size 41 #[I 0, .slice none 0 0, .string ⟨#[]⟩, .slice none 0 0] ∧ Below W0.heap.size W0 wc ∧ W0.heap.size < P)
    case first =>
      go_region_held3 (fun w' => w'.cell? ⟨g.b, 0, none⟩ = some (I n.tag) ∧ w'.cell? ⟨g.b, 1, none⟩ = some (.slice AA am acap) ∧ w'.cell? ⟨g.b, 2, none⟩ = some (.string n.text)) (exact node_cells (t := 139) (by (repeat' (first | (with_reducible assumption) | (with_reducible refine unhid ?_; with_reducible assumption) | (with_reducible refine At.fresh _ _ _ (by first | (simp; done) | (simp; omega) | omega)) | (with_reducible apply At.set') | (with_reducible apply At.far) | (with_reducible apply At.alloc) | (with_reducible apply At.drew) | (with_reducible apply At.drewN) | exact (rfl : Array.setIfInBounds _ _ _ = _) | (refine Ne.symm ?_; simp; done) | (show _ ≠ _; simp; done) | (show _ ≠ _; simp; omega) | (show _ ≠ _; omega))); (first | done | fail))) (first | ((with_reducible refine (HC.out _ (by repeat (first | exact Below.refl _ _ | assumption | (refine Below.setCell ?_ (by first | (simp; done) | (simp; omega) | omega) _) | (refine Below.alloc ?_ (by first | (simp; done) | (simp; omega) | omega) _) | (refine Below.drew ?_) | (refine Below.drewN' ?_ _)))).mono ?_); rintro e w1 ⟨v_w1, rfl, hown, hb⟩; obtain ⟨A_w1, c_w1, rfl⟩ := own_form hown; have HO_w1 := Lib.hid hown; clear hown; have HBb_w1 := Lib.hid hb; have hz_w1 := hb.size; (try simp only [World.size_alloc, World.size_setCell, World.size_drew, size_drewN'] at hz_w1); (try (have t0_w1 : At w1 (W0.heap.size + 1) 41 #[I 0, .slice none 0 0, .string ⟨#[]⟩, .slice none 0 0] := At.keep (by (repeat' (first | (with_reducible assumption) | (with_reducible refine unhid ?_; with_reducible assumption) | (with_reducible refine At.fresh _ _ _ (by first | (simp; done) | (simp; omega) | omega)) | (with_reducible apply At.set') | (with_reducible apply At.far) | (with_reducible apply At.alloc) | (with_reducible apply At.drew) | (with_reducible apply At.drewN) | exact (rfl : Array.setIfInBounds _ _ _ = _) | (refine Ne.symm ?_; simp; done) | (show _ ≠ _; simp; done) | (show _ ≠ _; simp; omega) | (show _ ≠ _; omega))); (first | done | fail)) hb; have t0_w1c := At.cell t0_w1; have t0_w1f := At.frozen t0_w1; have t0_w1h := Lib.hid t0_w1; clear t0_w1)); have k0_w1 : At w1 (W0.heap.size) 41 #[I 0, .slice none 0 0, .string ⟨#[]⟩, .slice none 0 0] := At.keep (by (repeat' (first | (with_reducible assumption) | (with_reducible refine unhid ?_; with_reducible assumption) | (with_reducible refine At.fresh _ _ _ (by first | (simp; done) | (simp; omega) | omega)) | (with_reducible apply At.set') | (with_reducible apply At.far) | (with_reducible apply At.alloc) | (with_reducible apply At.drew) | (with_reducible apply At.drewN) | exact (rfl : Array.setIfInBounds _ _ _ = _) | (refine Ne.symm ?_; simp; done) | (show _ ≠ _; simp; done) | (show _ ≠ _; simp; omega) | (show _ ≠ _; omega))); (first | done | fail)) hb; have k0_w1c := At.cell k0_w1; have k0_w1f := At.frozen k0_w1; have k0_w1h := Lib.hid k0_w1; clear k0_w1; have k1_w1 : At w1 (g.b) 139 #[I n.tag, .slice AA am acap, .string n.text, .slice KA m kcap, I (DT.upI n.up)] := At.keep (by (repeat' (first | (with_reducible assumption) | (with_reducible refine unhid ?_; with_reducible assumption) | (with_reducible refine At.fresh _ _ _ (by first | (simp; done) | (simp; omega) | omega)) | (with_reducible apply At.set') | (with_reducible apply At.far) | (with_reducible apply At.alloc) | (with_reducible apply At.drew) | (with_reducible apply At.drewN) | exact (rfl : Array.setIfInBounds _ _ _ = _) | (refine Ne.symm ?_; simp; done) | (show _ ≠ _; simp; done) | (show _ ≠ _; simp; omega) | (show _ ≠ _; omega))); (first | done | fail)) hb; have k1_w1c := At.cell k1_w1; have k1_w1f := At.frozen k1_w1; have k1_w1h := Lib.hid k1_w1; clear k1_w1; have hb_w1 : Below W0.heap.size W0 w1 := Below.trans (by exact (by repeat (first | exact Below.refl _ _ | assumption | (refine Below.setCell ?_ (by first | (simp; done) | (simp; omega) | omega) _) | (refine Below.alloc ?_ (by first | (simp; done) | (simp; omega) | omega) _) | (refine Below.drew ?_) | (refine Below.drewN' ?_ _)))) (hb.mono (by first | (simp; done) | (simp; omega) | omega)); obtain ⟨hc_w1, hf_w1⟩ := bcell hb_w1; clear hb))
      all_goals
        go_wp2_with fail
        go_meet
        have hge := own_ge HO_w1.out
        simp only [World.size_alloc, World.size_drew] at hge
        refine ⟨_, _, _, rfl, (by (repeat' (first | (with_reducible assumption) | (with_reducible refine unhid ?_; with_reducible assumption) | (with_reducible refine At.fresh _ _ _ (by first | (simp; done) | (simp; omega) | omega)) | (with_reducible apply At.set') | (with_reducible apply At.far) | (with_reducible apply At.alloc) | (with_reducible apply At.drew) | (with_reducible apply At.drewN) | exact (rfl : Array.setIfInBounds _ _ _ = _) | (refine Ne.symm ?_; simp; done) | (show _ ≠ _; simp; done) | (show _ ≠ _; simp; omega) | (show _ ≠ _; omega))); (first | done | fail)), ?_, ?_, (by (repeat' (first | (with_reducible assumption) | (with_reducible refine unhid ?_; with_reducible assumption) | (with_reducible refine At.fresh _ _ _ (by first | (simp; done) | (simp; omega) | omega)) | (with_reducible apply At.set') | (with_reducible apply At.far) | (with_reducible apply At.alloc) | (with_reducible apply At.drew) | (with_reducible apply At.drewN) | exact (rfl : Array.setIfInBounds _ _ _ = _) | (refine Ne.symm ?_; simp; done) | (show _ ≠ _; simp; done) | (show _ ≠ _; simp; omega) | (show _ ≠ _; omega))); (first | done | fail)), (by repeat (first | exact Below.refl _ _ | assumption | (refine Below.setCell ?_ (by first | (simp; done) | (simp; omega) | omega) _) | (refine Below.alloc ?_ (by first | (simp; done) | (simp; omega) | omega) _) | (refine Below.drew ?_) | (refine Below.drewN' ?_ _))), ?_⟩
        · have h1 := own_base HO_w1.out (show W0.heap.size ≤ _ by simp; try omega)
          repeat (first | exact h1 | (refine ownsRow_setCell_other ?_ (fun e => by have := hge _ e; simp at this; try omega) _) | (refine World.ownsRow.alloc ?_ _))
        · intro b hb
          have := hge b hb
          constructor <;> omega
        · first | (simp; done) | (simp; omega) | omega
    case rest =>
      obtain ⟨P, A1, c1, rfl, kP, hown, hne1, kR, hb1, hlt⟩ := hcut
      obtain ⟨w1, rfl⟩ : ∃ w1, w1 = wc := ⟨_, rfl⟩
      have kN := HN.out.keep hb1
      have kNc := kN.cell
      have kPc := kP.cell
      have kPf := kP.frozen
      have kPl := kP.lt
      have hz_w1 := hb1.size
      have HS := Lib.hid (And.intro hown (And.intro hne1 (And.intro kR (And.intro hb1 kP))))
      have HK1 : Hid (∀ (j k : Nat), n.kids[j]? = some k → ∃ a, KA = some ⟨a, 0, none⟩ ∧ a < W0.heap.size ∧ a < w1.heap.size ∧ w1.cell? ⟨a, j, none⟩ = some (.int .i64 (k : Int))) := by
        intro j k hj
        obtain ⟨a, h1, h2, h3⟩ := HK.out j k hj
        exact ⟨a, h1, h2, by omega, by rw [← h3]; exact hb1.cell (p := ⟨a, j, none⟩) h2⟩
      clear hown hne1 kR hb1 kN kP
      go_upto_region 6 with fail
      go_loopw [8, 37] (fun _ s37 wr => ∃ k : Nat, k ≤ m ∧ s37 = .int .i64 k ∧ Hid (∃ Vs A2 c2, PlSt (T.plainF DT.fuel) W0 P n (.slice A1 am c1) k Vs A2 c2 wr)) (fun _ s37 _ => m - (intOf s37).toNat)
      case atStart =>
        refine ⟨0, Nat.zero_le _, rfl, [], none, 0, rfl, rfl, HS.out.2.2.2.2, HS.out.2.2.1, by rw [HM.out.2]; exact HS.out.1, NSt.nil _ _ _, HS.out.2.2.2.1, hlt, HS.out.2.1⟩
      case round =>
        obtain ⟨k, hk, rfl, hst⟩ := hrel
        obtain ⟨Vs, A2, c2, hst⟩ := hst.out
        have kP := hst.out
        have kPc := kP.cell
        have kPf := kP.frozen
        have kPl := kP.lt
        have kPh := Lib.hid kP
        have hbr := hst.below
        have hzr := hbr.size
        have hrow := hst.row.row
        rw [hst.len] at hrow
        have hrow0 := Lib.hid hrow
        have hPo : (Value.slice A2 k c2).ownBlock ≠ some P := fun e => hst.row.apart P e (.inl rfl)
        have HST := Lib.hid hst
        have hbw : Below w.heap.size w wr := HB0.out.trans (hbr.mono HB0.out.size)
        clear hst kP hrow
        by_cases hlt2 : k < m
        · obtain ⟨kk, hkk⟩ : ∃ kk, n.kids[k]? = some kk := ⟨_, List.getElem?_eq_getElem (by have := HM.out.1; omega)⟩
          obtain ⟨a, rfl, ha1, ha2, ha3⟩ := HK1.out k kk hkk
          have hcell : wr.cell? ⟨a, k, none⟩ = some (.int .i64 (kk : Int)) := by
            obtain ⟨a', h1, h2, h3⟩ := HK.out k kk hkk
            cases h1
            rw [← h3]; exact hbr.cell (p := ⟨a, k, none⟩) h2
          have hmem : kk ∈ n.kids := List.mem_of_getElem? hkk
          have IHk := Lib.hid (fun W hW => IH.out kk hmem W hW)
          have Hkk := Lib.hid hkk
          have HBW := Lib.hid hbw
          have HPo := Lib.hid hPo
          have HBR := Lib.hid hbr
          clear hkk hmem hbw hPo hbr ha3 kNc
          go_wp2_with fail
          go_region_law (first
            | (refine step_append_lies _ (by rfl) _ _ _ (by rfl) W0.heap.size 41 i0 _ 4 72 Try.underlying39 hi0 hz0 hz1 hz2 rfl (by omega) (.slice A2 k c2) k (kidsCells Vs) (by rfl) (World.ownsRow.alloc HR2.out _) ⟨w2.heap.size, 0, none⟩ 1 1 [I t, .slice a5 n5 c5, .string x, .slice a6 n6 c6] (by rfl) (by rfl) (World.news_of_block (cs := #[I t, .slice a5 n5 c5, .string x, .slice a6 n6 c6]) (t := 41) (fr := (0, 0)) (heap_alloc_new w2 _)) (VN.one HV.out.2.1) (by omega) (by unfold maxLen; omega) (by omega) (by simp; omega) (w2.heap.size + 1) (by simp) ?_; intro g1 cap1 w3 hown3 hgrow hlie hlt3; have kP3 : At w3 P 41 #[I n.tag, .slice A1 am c1, .string n.text, .slice A2 k c2] := (kP2h.out.alloc _).grown hgrow HPo.out; have kP3c := kP3.cell; have kP3f := kP3.frozen; have kP3h := Lib.hid kP3; have HG3 := Lib.hid (And.intro hown3 (And.intro hgrow (And.intro hlie kP3))); clear hown3 hgrow hlie kP3)
            | (go_simp; (with_reducible refine (IHk.out _ (by first | exact HBW.out | exact HBW.out.drew)).mono ?_); rintro e w2 ⟨⟨t, al, x, av, kv, ks⟩, he, hV1, hV2, hb0⟩; dsimp only [VN.agg] at he; subst he; obtain ⟨a5, n5, c5, a6, n6, c6, rfl, rfl⟩ := VN.forms hV2; have hb : Below wr.heap.size wr w2 := (by first | exact hb0 | exact (Below.drew (Below.refl _ _)).trans hb0); clear hb0; have hzw2 := hb.size; have HV := Lib.hid (And.intro hV1 (And.intro hV2 hb)); have kP2 : At w2 P 41 #[I n.tag, .slice A1 am c1, .string n.text, .slice A2 k c2] := kPh.out.keep hb; have hr2 : w2.ownsRow W0.heap.size 41 4 (.slice A2 k c2) k (kidsCells Vs) := own_same hrow0.out (fun b hb1 => hb.block b (own_ge hrow0.out b hb1).2); have HR2 := Lib.hid hr2; have kP2c := kP2.cell; have kP2f := kP2.frozen; have kP2h := Lib.hid kP2; clear hV1 hV2 hb kP2 hr2))
          all_goals
            go_wp2_with fail
            exact ⟨⟨k + 1, by omega, by go_num, _, _, _, HST.out.step Hkk.out HV.out.1 HV.out.2.1 HV.out.2.2 HG3.out.1 HG3.out.2.1 HG3.out.2.2.1⟩, by simp [intOf]; omega⟩
        · have hkm : k = m := by omega
          subst hkm
          have kRc := HST.out.res.cell
          have kRf := HST.out.res.frozen
          have kRl := HST.out.res.lt
          have hPR : P ≠ W0.heap.size := by omega
          have hRP : W0.heap.size ≠ P := by omega
          go_wp2_with fail
          have hD := HST.out.done (w' := (((wr.setCell ⟨W0.heap.size, 0, none⟩ (I n.tag)).setCell ⟨W0.heap.size, 1, none⟩ (.slice A1 am c1)).setCell ⟨W0.heap.size, 2, none⟩ (.string n.text)).setCell ⟨W0.heap.size, 3, none⟩ (.slice A2 k c2)) HM.out.1 (fun b hb => by
            rw [Below.heap_setCell _ _ _ _ hb, Below.heap_setCell _ _ _ _ hb, Below.heap_setCell _ _ _ _ hb, Below.heap_setCell _ _ _ _ hb]) (by simp only [World.size_setCell])
          have HBR := HST.out.below
          have HBF : Below W0.heap.size W0 ((((wr.setCell ⟨W0.heap.size, 0, none⟩ (I n.tag)).setCell ⟨W0.heap.size, 1, none⟩ (.slice A1 am c1)).setCell ⟨W0.heap.size, 2, none⟩ (.string n.text)).setCell ⟨W0.heap.size, 3, none⟩ (.slice A2 k c2)) := (by repeat (first | exact Below.refl _ _ | assumption | (refine Below.setCell ?_ (by first | (simp; done) | (simp; omega) | omega) _) | (refine Below.alloc ?_ (by first | (simp; done) | (simp; omega) | omega) _) | (refine Below.drew ?_) | (refine Below.drewN' ?_ _)))
          have kF : At ((((wr.setCell ⟨W0.heap.size, 0, none⟩ (I n.tag)).setCell ⟨W0.heap.size, 1, none⟩ (.slice A1 am c1)).setCell ⟨W0.heap.size, 2, none⟩ (.string n.text)).setCell ⟨W0.heap.size, 3, none⟩ (.slice A2 k c2)) W0.heap.size 41 #[I n.tag, .slice A1 am c1, .string n.text, .slice A2 k c2] := (((HST.out.res.set' rfl).set' rfl).set' rfl).set' rfl
          generalize ((((wr.setCell ⟨W0.heap.size, 0, none⟩ (I n.tag)).setCell ⟨W0.heap.size, 1, none⟩ (.slice A1 am c1)).setCell ⟨W0.heap.size, 2, none⟩ (.string n.text)).setCell ⟨W0.heap.size, 3, none⟩ (.slice A2 k c2)) = wF at hD HBF kF ⊢
          have kFc := kF.cell
          exact bodyPost_ret (v := .agg #[I n.tag, .slice A1 am c1, .string n.text, .slice A2 k c2]) (by simp [results, Try.results33, go_sem, kFc]) rfl ⟨.mk n.tag n.attrs n.text (.slice A1 am c1) (.slice A2 k c2) Vs, rfl, hD.1, hD.2, HBF⟩

set_option maxHeartbeats 400000 in
theorem plain_any (h : Rep w tb T nv G) (hW : T.WF) (hA : T.AB) (id : Int) (W : World) (hb : Below w.heap.size w W) :
    Calls Try.prog 33 #[.pointer (some ⟨tb, 0, none⟩), I id] W (PlainRet (T.plain id) W) := by
  have hl := hW.nodes_le
  cases hn : T.get id with
  | none =>
    have e : T.plain id = .mk 0 [] ByteArray.empty [] := by simp [DT.plain, DT.has, hn]
    have HG := Lib.hid (fun (W' : World) (hb' : Below W.heap.size W W') => get_none ((h.keep hb).keep hb') hl hn)
    rw [e]
    clear h hn e hb
    go_enter Try.func33, Try.ntmps33
    go_wp2_with ((with_reducible refine (HG.out _ (by repeat (first | exact Below.refl _ _ | assumption | (refine Below.setCell ?_ (by first | (simp; done) | (simp; omega) | omega) _) | (refine Below.alloc ?_ (by first | (simp; done) | (simp; omega) | omega) _) | (refine Below.drew ?_) | (refine Below.drewN' ?_ _)))).mono ?_); rintro e w' ⟨rfl, rfl⟩)
    have kF : At (W.alloc (.cells #[I 0, .slice none 0 0, .string ⟨#[]⟩, .slice none 0 0] 41)) W.heap.size 41 #[I 0, .slice none 0 0, .string ⟨#[]⟩, .slice none 0 0] := At.fresh _ _ _ rfl
    have kFc := kF.cell
    exact bodyPost_ret (v := .agg #[I 0, .slice none 0 0, .string ⟨#[]⟩, .slice none 0 0]) (by simp [results, Try.results33, go_sem, kFc]) rfl ⟨.mk 0 [] ByteArray.empty (.slice none 0 0) (.slice none 0 0) [], rfl, rfl, .mk (RowQ.nil _ _ _) (RowQ.nil _ _ _) (fun k hk => by cases hk), (by repeat (first | exact Below.refl _ _ | assumption | (refine Below.setCell ?_ (by first | (simp; done) | (simp; omega) | omega) _) | (refine Below.alloc ?_ (by first | (simp; done) | (simp; omega) | omega) _) | (refine Below.drew ?_) | (refine Below.drewN' ?_ _)))⟩
  | some n =>
    obtain ⟨h0, h1, h2⟩ := DT.get_some hn
    have := plain_at h hW hA 41 id.toNat n h1 (by omega) W hb
    rwa [h2, ← DT.plain_has hn] at this
end
end Go.Proofs.Ytnnjlpkjpbbklaa
