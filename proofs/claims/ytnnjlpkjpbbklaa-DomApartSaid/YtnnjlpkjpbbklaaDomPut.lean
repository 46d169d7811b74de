/-
  Graft's own function of package dom: a plain tree as a loose one. Conditions: the tree lies in memory and is sound; the plain tree may be.
-/
import Derived.Test.YtnnjlpkjpbbklaaDomMeasure2
import Derived.Deep.RegionLaw
set_option linter.unusedVariables false
set_option linter.unusedSimpArgs false
namespace Go.Proofs.Ytnnjlpkjpbbklaa
open Go.RowKit

namespace PNode
theorem okL_append {f : Bytes → Bytes} (a b : List PNode) : okL f (a ++ b) ↔ okL f a ∧ okL f b := by
  induction a with
  | nil => simp [okL]
  | cons k ks ih => simp only [List.cons_append, okL, ih, and_assoc]
theorem highL_le (b : Nat) (l1 l2 : List PNode) : highL b l1 ≤ highL b (l1 ++ l2) := by
  rw [highL_fold, highL_fold, List.foldl_append, ← highL_fold, ← highL_fold]
  exact DT.highL_ge _ _
end PNode

section
variable {tb : Nat} {T T2 : DT} {nv nv1 : Value} {G G1 : List (Option NG)}
theorem Mut.seq {S : Nat → Prop} {w w1 W w2 : World} (ho : Only S w w1) (hs : ∀ b ∈ repBlocks tb nv1 G1, S b ∨ w.heap.size ≤ b) (hb : Below w1.heap.size w1 W) (h : Mut tb T2 (fun b => b ∈ repBlocks tb nv1 G1) W w2) : Mut tb T2 S w w2 := by
  obtain ⟨⟨nv2, G2, hr2, hs2⟩, ho2⟩ := h
  have hz := ho.size
  have hz2 := hb.size
  refine ⟨⟨nv2, G2, hr2, fun b hb1 => ?_⟩, (ho.trans (Only.of_below (S := S) hb) fun i _ hi => hi).trans ho2 fun i hi hx => ?_⟩
  · rcases hs2 b hb1 with h1 | h1
    · exact hs b h1
    · right; omega
  · rcases hs i hx with h1 | h1
    · exact h1
    · omega

/-- Where Graft's own function stands behind a kid. -/
def PutMid (tb : Nat) (T' : DT) (tc : Nat) (nv : Value) (G : List (Option NG)) (w w5 : World) : Prop := ∃ nv5 G5, Rep w5 tb T' nv5 G5 ∧ (∀ b ∈ repBlocks tb nv5 G5, b ∈ repBlocks tb nv G ∨ w.heap.size ≤ b) ∧ Only (fun b => b ∈ repBlocks tb nv G) w w5 ∧ tc ∉ repBlocks tb nv5 G5 ∧ At w5 tc 36 #[.pointer (some ⟨tb, 0, none⟩)]

theorem keep3 {w' : World} {tc tb g id : Nat} {t1 t2 t3 : TypeId} {p a b c nv q : Value} {cur : Array Value} (h1 : At w' tc t1 #[p]) (h2 : At w' tb t2 #[a, b, c, nv]) (h3 : At w' g t3 cur) (hi : cur[id]? = some q) :
    w'.cell? ⟨tc, 0, none⟩ = some p ∧ w'.cell? ⟨tb, 3, none⟩ = some nv ∧ w'.cell? ⟨g, id, none⟩ = some q := ⟨h1.cell 0, h2.cell 3, (h3.cell id).trans hi⟩

theorem box_cells {w' : World} {tc B : Nat} {t1 t2 : TypeId} {p a b c d : Value} (h1 : At w' tc t1 #[p]) (h2 : At w' B t2 #[a, b, c, d]) :
    w'.cell? ⟨tc, 0, none⟩ = some p ∧ w'.cell? ⟨B, 0, none⟩ = some a ∧ w'.cell? ⟨B, 1, none⟩ = some b ∧ w'.cell? ⟨B, 2, none⟩ = some c := ⟨h1.cell 0, h2.cell 0, h2.cell 1, h2.cell 2⟩

set_option maxRecDepth 100000 in
set_option maxHeartbeats 4000000 in
theorem put_at {tc pc : Nat} : ∀ (V : VN) (R : Nat → Prop) (w : World) (T : DT) (nv : Value) (G : List (Option NG)), Rep w tb T nv G → T.WF → PV w R V → (∀ b, R b → b < w.heap.size ∧ b ∉ repBlocks tb nv G) → V.node.small → V.node.ok anew → (T.count : Int) + V.node.size ≤ T.cap → (V.node.high : Int) ≤ T.dep →
    At w tc 36 #[.pointer (some ⟨tb, 0, none⟩)] → At w pc 62 #[.func (.func 125) #[] #[.pointer (some ⟨tc, 0, none⟩), .pointer (some ⟨pc, 0, none⟩)]] → tc ∉ repBlocks tb nv G → pc ∉ repBlocks tb nv G →
    Calls Try.prog 125 #[V.agg, .pointer (some ⟨tc, 0, none⟩), .pointer (some ⟨pc, 0, none⟩)] w fun e w' => e = .returned (I ((DT.graftP anew V.node T).1 : Nat)) ∧ Mut tb (DT.graftP anew V.node T).2 (fun b => b ∈ repBlocks tb nv G) w w' := by
  intro V
  induction V using VN.ind with
  | h t al x av kv ks ih =>
    intro R w T nv G h hW hP hR hs hok hcap hdep htc hpc htcn hpcn
    cases hP with
    | mk ha hk hkids =>
      rw [VN.node_mk] at hs hok hcap hdep ⊢
      dsimp only [VN.agg]
      unfold PNode.small at hs
      obtain ⟨hs1, hs2, hs3⟩ := hs
      unfold PNode.ok at hok
      obtain ⟨hb1, hb2, hb3⟩ := hok
      have hsz : (PNode.mk t al x (ks.map VN.node)).size = PNode.sizeL (ks.map VN.node) + 1 := rfl
      have hhg : (PNode.mk t al x (ks.map VN.node)).high = PNode.highL 0 (ks.map VN.node) := rfl
      rw [hsz] at hcap
      rw [hhg] at hdep
      have hkl : ks.length ≤ PNode.sizeL (ks.map VN.node) := by have := PNode.sizeL_length (ks.map VN.node); simpa using this
      have hl := hW.nodes_le
      have hcap2 := hW.cap2
      obtain ⟨AA, ac, hav, hac1, hac2, hA0⟩ := ha.form
      obtain ⟨KA, kc, hkv, hkc1, hkc2, hK0⟩ := hk.form
      subst hav hkv
      -- the node added first
      have hroom : T.roomFor 1 = true := by simp only [DT.roomFor, decide_eq_true_eq]; omega
      have htag : (t = 0 ∧ al = [] ∧ ks.map VN.node = []) ∨ (1 ≤ t ∧ t ≤ 16) := by
        unfold PNode.badOne at hb1
        split at hb1
        · rename_i e
          simp at hb1
          exact .inl ⟨e, hb1.1, by simpa using hb1.2⟩
        · simp at hb1
          exact .inr (DT.elementOk_iff.1 hb1.1)
      have hT1 : (T.addAt ⟨t, al, anew x, [], none⟩).WF := hW.addAt hroom rfl rfl (by show 0 ≤ t ∧ t ≤ 16; omega) hb2
      have hid : (T.addAt ⟨t, al, anew x, [], none⟩).at_ T.slot = some ⟨t, al, anew x, [], none⟩ := by rw [DT.at_addAt, if_pos rfl]
      have hh1 : (T.addAt ⟨t, al, anew x, [], none⟩).heightF DT.fuel T.slot = 0 := by rw [hT1.height_step hid]; rfl
      have hc1 : (T.addAt ⟨t, al, anew x, [], none⟩).count = T.count + 1 := DT.count_addAt _
      have hcp1 : (T.addAt ⟨t, al, anew x, [], none⟩).cap = T.cap := DT.addAt_cap _
      have hdp1 : (T.addAt ⟨t, al, anew x, [], none⟩).dep = T.dep := DT.addAt_dep _
      have hstep : Hid (∀ l1 l2, ks.map VN.node = l1 ++ l2 → DT.PutL anew (T.addAt ⟨t, al, anew x, [], none⟩) (DT.graftL anew l1 T.slot (T.addAt ⟨t, al, anew x, [], none⟩)) T.slot ⟨t, al, anew x, [], none⟩ l1 ∧
          ∀ k l3, l2 = k :: l3 → k.ok anew ∧ ((DT.graftL anew l1 T.slot (T.addAt ⟨t, al, anew x, [], none⟩)).count : Int) + k.size ≤ (DT.graftL anew l1 T.slot (T.addAt ⟨t, al, anew x, [], none⟩)).cap ∧ (k.high : Int) ≤ (DT.graftL anew l1 T.slot (T.addAt ⟨t, al, anew x, [], none⟩)).dep) := by
        intro l1 l2 e
        rw [e] at hb3 hcap hdep
        rw [PNode.okL_append] at hb3
        rw [PNode.sizeL_append] at hcap
        have hge : PNode.highL 0 l1 ≤ PNode.highL 0 (l1 ++ l2) := PNode.highL_le _ _ _
        have hL := DT.graft_list (f := anew) l1 T.slot (T.addAt ⟨t, al, anew x, [], none⟩) _ hT1 hb3.1 hid rfl (fun h => by
          rcases htag with ⟨_, _, e'⟩ | e'
          · rw [e] at e'; exact absurd (List.append_eq_nil_iff.1 e').1 h
          · show t ≠ 0; omega) (by rw [hc1, hcp1]; omega) (by rw [hh1, hdp1]; omega)
        refine ⟨hL, fun k l3 e2 => ?_⟩
        subst e2
        have h1 := hb3.2
        unfold PNode.okL at h1
        rw [PNode.sizeL_cons] at hcap
        have h2 : k.high + 1 ≤ PNode.highL 0 (l1 ++ k :: l3) := by
          have h3 : l1 ++ k :: l3 = (l1 ++ [k]) ++ l3 := by simp
          have h4 : PNode.highL 0 (l1 ++ [k]) ≤ PNode.highL 0 (l1 ++ k :: l3) := by rw [h3]; exact PNode.highL_le _ _ _
          rw [PNode.highL_append] at h4
          omega
        rw [hL.count, hL.cap, hL.dep, hc1, hcp1, hdp1]
        exact ⟨h1.1, by omega, by omega⟩
      have hHI : T.slot = T.slot := rfl
      have HAn := Lib.hid (fun (W : World) => anew_any (w := W) x (by omega))
      have HAd := Lib.hid (fun (W : World) (hb : Below w.heap.size w W) => add_any (h.keep hb) (S := fun b => b ∈ repBlocks tb nv G) (fun b hb1 => hb1) hl (tag := t) (text := anew x) (al := al) (ha.reads.keep hb) (by omega))
      have hgr : DT.graftP anew (.mk t al x (ks.map VN.node)) T = (T.slot, DT.graftL anew (ks.map VN.node) T.slot (T.addAt ⟨t, al, anew x, [], none⟩)) := rfl
      rw [hgr]
      have htcl := htc.lt
      have hpcl := hpc.lt
      have hblk := h.lt
      have HX := Lib.hid (And.intro h (And.intro hR (And.intro hk (And.intro hkids (And.intro hs3 (And.intro htc (And.intro hpc (And.intro htcn (And.intro hpcn hblk)))))))))
      have htcc := htc.cell
      have hpcc := hpc.cell
      have kTC := Lib.hid htc
      have IH := Lib.hid ih
      have HGR := Lib.hid hgr
      have HMS : Hid (∀ b ∈ repBlocks tb nv G, b < w.heap.size) := hblk
      generalize hAX : anew x = ax at *
      generalize hKM : ks.length = km at *
      generalize hAM : al.length = am at *
      generalize hT1e : T.addAt ⟨t, al, ax, [], none⟩ = T1 at *
      generalize hSL : T.slot = sl at *
      have HL := Lib.hid (And.intro hKM (And.intro hAM hAX))
      have hkml : (km : Int) ≤ 2000 := by omega
      clear h hW hR ha hk hkids hs1 hs2 hs3 hb1 hb2 hb3 hcap hdep hsz hhg hkl hA0 hK0 hroom htag hT1 hid hh1 hc1 hcp1 hdp1 ih hgr htc hpc htcn hpcn hblk hKM hAM hAX hT1e hSL hHI hl
      go_enter Try.func125, Try.ntmps125
      go_upto_region 1 with fail
      go_cut [5] (fun s5 wc => s5 = I (sl : Int) ∧ Mut tb T1 (fun b => b ∈ repBlocks tb nv G) w wc ∧ At wc w.heap.size 41 #[I t, .slice AA am ac, .string x, .slice KA km kc])
      case first =>
        go_region_held3 (fun w' => w'.cell? ⟨tc, 0, none⟩ = some (.pointer (some ⟨tb, 0, none⟩)) ∧ w'.cell? ⟨w.heap.size, 0, none⟩ = some (I t) ∧ w'.cell? ⟨w.heap.size, 1, none⟩ = some (.slice AA am ac) ∧ w'.cell? ⟨w.heap.size, 2, none⟩ = some (.string x)) (exact box_cells (t1 := 36) (t2 := 41) (d := .slice KA km kc) (by (repeat' (first | (with_reducible assumption) | (with_reducible refine unhid ?_; with_reducible assumption) | (with_reducible refine At.fresh _ _ _ (by first | (simp; done) | (simp; omega) | omega)) | (with_reducible apply At.set') | (with_reducible apply At.far) | (with_reducible apply At.alloc) | (with_reducible apply At.drew) | (with_reducible apply At.drewN) | exact (rfl : Array.setIfInBounds _ _ _ = _) | (refine Ne.symm ?_; simp; done) | (show _ ≠ _; simp; done) | (show _ ≠ _; simp; omega) | (show _ ≠ _; omega))); (first | done | fail)) (by (repeat' (first | (with_reducible assumption) | (with_reducible refine unhid ?_; with_reducible assumption) | (with_reducible refine At.fresh _ _ _ (by first | (simp; done) | (simp; omega) | omega)) | (with_reducible apply At.set') | (with_reducible apply At.far) | (with_reducible apply At.alloc) | (with_reducible apply At.drew) | (with_reducible apply At.drewN) | exact (rfl : Array.setIfInBounds _ _ _ = _) | (refine Ne.symm ?_; simp; done) | (show _ ≠ _; simp; done) | (show _ ≠ _; simp; omega) | (show _ ≠ _; omega))); (first | done | fail))) (first
          | ((with_reducible refine (HAn.out _).mono ?_); rintro e w1 ⟨rfl, hb⟩; have hz_w1 := hb.size; (try simp only [World.size_alloc, World.size_setCell, World.size_drew, size_drewN'] at hz_w1); have k0_w1 : At w1 (w.heap.size) 41 #[I t, .slice AA am ac, .string x, .slice KA km kc] := At.keep (by (repeat' (first | (with_reducible assumption) | (with_reducible refine unhid ?_; with_reducible assumption) | (with_reducible refine At.fresh _ _ _ (by first | (simp; done) | (simp; omega) | omega)) | (with_reducible apply At.set') | (with_reducible apply At.far) | (with_reducible apply At.alloc) | (with_reducible apply At.drew) | (with_reducible apply At.drewN) | exact (rfl : Array.setIfInBounds _ _ _ = _) | (refine Ne.symm ?_; simp; done) | (show _ ≠ _; simp; done) | (show _ ≠ _; simp; omega) | (show _ ≠ _; omega))); (first | done | fail)) hb; have k0_w1c := At.cell k0_w1; have k0_w1f := At.frozen k0_w1; have k0_w1h := Lib.hid k0_w1; clear k0_w1; have k1_w1 : At w1 (tc) 36 #[.pointer (some ⟨tb, 0, none⟩)] := At.keep (by (repeat' (first | (with_reducible assumption) | (with_reducible refine unhid ?_; with_reducible assumption) | (with_reducible refine At.fresh _ _ _ (by first | (simp; done) | (simp; omega) | omega)) | (with_reducible apply At.set') | (with_reducible apply At.far) | (with_reducible apply At.alloc) | (with_reducible apply At.drew) | (with_reducible apply At.drewN) | exact (rfl : Array.setIfInBounds _ _ _ = _) | (refine Ne.symm ?_; simp; done) | (show _ ≠ _; simp; done) | (show _ ≠ _; simp; omega) | (show _ ≠ _; omega))); (first | done | fail)) hb; have k1_w1c := At.cell k1_w1; have k1_w1f := At.frozen k1_w1; have k1_w1h := Lib.hid k1_w1; clear k1_w1; have hb_w1 : Below w.heap.size w w1 := Below.trans (by exact (by repeat (first | exact Below.refl _ _ | assumption | (refine Below.setCell ?_ (by first | (simp; done) | (simp; omega) | omega) _) | (refine Below.alloc ?_ (by first | (simp; done) | (simp; omega) | omega) _) | (refine Below.drew ?_) | (refine Below.drewN' ?_ _)))) (hb.mono (by first | (simp; done) | (simp; omega) | omega)); obtain ⟨hc_w1, hf_w1⟩ := bcell hb_w1; clear hb)
          | ((with_reducible refine (HAd.out _ (by repeat (first | exact Below.refl _ _ | assumption | (refine Below.setCell ?_ (by first | (simp; done) | (simp; omega) | omega) _) | (refine Below.alloc ?_ (by first | (simp; done) | (simp; omega) | omega) _) | (refine Below.drew ?_) | (refine Below.drewN' ?_ _)))).mono ?_); rintro e w2 ⟨rfl, hM⟩; have hMO := hM.2; have hzM := hMO.size; (try simp only [World.size_alloc, World.size_drew] at hzM); have k0_w2 : At w2 w.heap.size 41 #[I t, .slice AA am ac, .string x, .slice KA km kc] := (hMO.block _ k0_w1h.out.lt (fun hx => by have := HMS.out _ hx; omega)).trans k0_w1h.out; have k1_w2 : At w2 tc 36 #[.pointer (some ⟨tb, 0, none⟩)] := (hMO.block _ k1_w1h.out.lt HX.out.2.2.2.2.2.2.2.1).trans k1_w1h.out; have k0_w2h := Lib.hid k0_w2; have k1_w2h := Lib.hid k1_w2; have HMM := Lib.hid hM; clear hM hMO k0_w2 k1_w2))
        all_goals go_wp2_with fail
        all_goals go_meet
        all_goals exact ⟨rfl, HMM.out.after (by repeat (first | exact Below.refl _ _ | assumption | (refine Below.setCell ?_ (by first | (simp; done) | (simp; omega) | omega) _) | (refine Below.alloc ?_ (by first | (simp; done) | (simp; omega) | omega) _) | (refine Below.drew ?_) | (refine Below.drewN' ?_ _))), k0_w2h.out⟩
      case rest =>
        obtain ⟨rfl, hM2, kB2⟩ := hcut
        obtain ⟨w2, rfl⟩ : ∃ w2, w2 = wc := ⟨_, rfl⟩
        have kB2c := kB2.cell
        have kB2l := kB2.lt
        have HM2 := Lib.hid hM2
        have hz2 := hM2.2.size
        clear hM2 kB2
        go_upto_region 3 with fail
        go_loopw [7, 8, 22] (fun _ _ s22 wr => ∃ j : Nat, j ≤ km ∧ s22 = .int .i64 (j : Int) ∧ Hid (Mut tb (DT.graftL anew ((ks.take j).map VN.node) sl T1) (fun b => b ∈ repBlocks tb nv G) w wr)) (fun _ _ s22 _ => km - (intOf s22).toNat)
        case atStart => exact ⟨0, Nat.zero_le _, rfl, HM2.out⟩
        case round =>
          obtain ⟨j, hj, rfl, hst⟩ := hrel
          obtain ⟨⟨nv1, G1, hr1, hs1⟩, ho1⟩ := hst.out
          have hzr := ho1.size
          have kt1 : At wr tc 36 #[.pointer (some ⟨tb, 0, none⟩)] := (ho1.block _ htcl HX.out.2.2.2.2.2.2.2.1).trans HX.out.2.2.2.2.2.1
          have kp1 := (ho1.block _ hpcl HX.out.2.2.2.2.2.2.2.2.1).trans HX.out.2.2.2.2.2.2.1
          have kp1 : At wr pc 62 #[.func (.func 125) #[] #[.pointer (some ⟨tc, 0, none⟩), .pointer (some ⟨pc, 0, none⟩)]] := kp1
          have kp1c := kp1.cell
          have kp1l := kp1.lt
          have htn1 : tc ∉ repBlocks tb nv1 G1 := fun hx => by
            rcases hs1 _ hx with h1 | h1
            · exact HX.out.2.2.2.2.2.2.2.1 h1
            · omega
          have hpn1 : pc ∉ repBlocks tb nv1 G1 := fun hx => by
            rcases hs1 _ hx with h1 | h1
            · exact HX.out.2.2.2.2.2.2.2.2.1 h1
            · omega
          by_cases hlt : j < km
          · have hjl : j < ks.length := by have := HL.out.1; omega
            have e1 : ks.map VN.node = (ks.take j).map VN.node ++ ((ks[j]).node :: (ks.drop (j + 1)).map VN.node) := by
              rw [← List.map_cons, ← List.drop_eq_getElem_cons hjl, ← List.map_append, List.take_append_drop]
            have e2 : (ks.take (j + 1)).map VN.node = (ks.take j).map VN.node ++ [(ks[j]).node] := by rw [List.take_add_one, List.getElem?_eq_getElem hjl, List.map_append]; rfl
            obtain ⟨hPL, hnext⟩ := hstep.out _ _ e1
            obtain ⟨hkok, hkcap, hkhi⟩ := hnext _ _ rfl
            have hPP := DT.graft_put (f := anew) _ _ hPL.wf hkok hkcap hkhi
            have hmem : ks[j] ∈ ks := List.getElem_mem hjl
            have hRn : ∀ b, R b → b < w.heap.size ∧ b ∉ repBlocks tb nv G := HX.out.2.1
            have hPk : PV wr R ks[j] := (HX.out.2.2.2.1 _ hmem).only ho1 hRn
            have hsm : (ks[j]).node.small := (PNode.smallL_iff _).1 HX.out.2.2.2.2.1 _ (List.mem_map.2 ⟨_, hmem, rfl⟩)
            have hkc : ∀ q, q < 4 → ∃ b off, KA = some ⟨b, off, none⟩ ∧ wr.cell? ⟨b, off + (j * 4 + q), none⟩ = (ks[j]).cells[q]? := by
              intro q hq
              have hrq := HX.out.2.2.1
              obtain ⟨b, off, cap, hv, _, _, hRb, hcell⟩ := hrq.open_ (by omega)
              injection hv with h1 _ _
              have hb := hRn b hRb
              have h2 := kidsCells_get ks j hjl q hq
              obtain ⟨u, hu⟩ : ∃ u, (ks[j]).cells[q]? = some u := ⟨(ks[j]).cells[q]'(by rw [VN.cells_length]; exact hq), List.getElem?_eq_getElem _⟩
              rw [hu] at h2 ⊢
              refine ⟨b, off, h1, ?_⟩
              rw [World.cell?_of_block (a := ⟨b, off + (j * 4 + q), none⟩) (ho1.block b hb.1 hb.2), hcell _ _ h2]
            have HI : Hid (∀ W, Below wr.heap.size wr W → Calls Try.prog 125 #[(ks[j]).agg, .pointer (some ⟨tc, 0, none⟩), .pointer (some ⟨pc, 0, none⟩)] W fun e w' => e = .returned (I ((DT.graftP anew (ks[j]).node (DT.graftL anew ((ks.take j).map VN.node) sl T1)).1 : Nat)) ∧
                PutMid tb (DT.graftP anew (ks[j]).node (DT.graftL anew ((ks.take j).map VN.node) sl T1)).2 tc nv G w w') := by
              intro W hb
              have hzW := hb.size
              have hI := IH.out _ hmem R W _ nv1 G1 (hr1.keep hb) hPL.wf (hPk.keepB hb fun b hb1 => by have := (hRn b hb1).1; omega) (fun b hb1 => ⟨by have := (hRn b hb1).1; omega, fun hx => by
                rcases hs1 b hx with h1 | h1
                · exact (hRn b hb1).2 h1
                · have := (hRn b hb1).1; omega⟩) hsm hkok hkcap hkhi (kt1.keep hb) (kp1.keep hb) htn1 hpn1
              refine hI.mono ?_
              rintro e w' ⟨he, ⟨nv5, G5, hr5, hs5⟩, ho5⟩
              refine ⟨he, nv5, G5, hr5, fun b hb1 => ?_, (ho1.trans (Only.of_below (S := fun b => b ∈ repBlocks tb nv G) hb) fun i _ hi => hi).trans ho5 fun i hi hx => ?_, fun hx => ?_, (ho5.block tc (by have := kt1.lt; omega) htn1).trans (kt1.keep hb)⟩
              · rcases hs5 b hb1 with h1 | h1
                · exact hs1 b h1
                · right; omega
              · rcases hs1 i hx with h1 | h1
                · exact h1
                · omega
              · rcases hs5 tc hx with h1 | h1
                · exact htn1 h1
                · have := kt1.lt; omega
            obtain ⟨b, off, hKA, hq0⟩ := hkc 0 (by omega)
            obtain ⟨b1, off1, hKA1, hq1⟩ := hkc 1 (by omega)
            obtain ⟨b2, off2, hKA2, hq2⟩ := hkc 2 (by omega)
            obtain ⟨b3, off3, hKA3, hq3⟩ := hkc 3 (by omega)
            rw [hKA] at hKA1 hKA2 hKA3
            cases hKA1; cases hKA2; cases hKA3
            have HS1 := Lib.hid (And.intro hs1 (And.intro ho1 htn1))
            have hTs : Hid (∀ (T' : DT), T' = T' → True) := fun _ _ => trivial
            have hnode := hPL.node
            have hPPn := hPP.node
            have hPPnew := hPP.new
            have hPPg := hPP.grown
            have hPPl := hPP.wf.nodes_le
            have hPPw := hPP.wf
            have hLink := DT.graftL_append (f := anew) ((ks.take j).map VN.node) (ks[j]).node sl T1
            rw [← e2] at hLink
            clear e1 e2 hPL hnext hkok hkcap hkhi hPP hmem hRn hsm hkc hst kp1 hr1 hs1 ho1 htn1 hpn1 hTs
            revert hPk HI hq0 hq1 hq2 hq3 hnode hPPn hPPnew hPPg hPPl hPPw hLink
            generalize ks[j] = V
            generalize DT.graftL anew ((ks.take j).map VN.node) sl T1 = Tj
            intro hPk HI hq0 hq1 hq2 hq3 hnode hPPn hPPnew hPPg hPPl hPPw hLink
            generalize hid' : (DT.graftP anew V.node Tj).1 = kid at *
            generalize hT' : (DT.graftP anew V.node Tj).2 = T' at *
            have HTT := Lib.hid (And.intro hid' hT')
            obtain ⟨kt, kal, kx, kav, kkv, kks⟩ := V
            obtain ⟨a5, n5, c5, a6, n6, c6, rfl, rfl⟩ := VN.forms hPk
            simp only [VN.cells, VN.agg] at hq0 hq1 hq2 hq3 HI
            simp only [Nat.add_zero, ← Nat.add_assoc] at hq0 hq1 hq2 hq3
            simp at hq0 hq1 hq2 hq3
            obtain ⟨mi, hmi, hmiu⟩ := hnode
            obtain ⟨mk, hmk, hmku⟩ := hPPn
            have hmi' := hPPg.at_ _ _ hmi
            have hne : sl ≠ kid := fun e => by rw [e, hPPnew] at hmi; cases hmi
            have hlink := DT.link_eq hmi' hmk
            rw [hlink] at hLink
            have HLK := Lib.hid (And.intro hLink (And.intro hmi' (And.intro hmk (And.intro hne hmku))))
            have HPL2 := Lib.hid hPPl
            have HWF := Lib.hid hPPw
            have hslr := DT.at_lt hmi'
            have hkdr := DT.at_lt hmk
            subst hKA
            clear hPk hjl hid' hT' hmi hmk hmi' hlink hLink hPPg hPPnew hmiu hmku hPPw hPPl
            have kt1h := Lib.hid kt1
            clear kt1
            go_upto_region 6 with ((with_reducible refine (HI.out _ (by repeat (first | exact Below.refl _ _ | assumption | (refine Below.setCell ?_ (by first | (simp; done) | (simp; omega) | omega) _) | (refine Below.alloc ?_ (by first | (simp; done) | (simp; omega) | omega) _) | (refine Below.drew ?_) | (refine Below.drewN' ?_ _)))).mono ?_); rintro r w5 ⟨rfl, hM5⟩; have HM5 := Lib.hid hM5; clear hM5)
            obtain ⟨nv5, G5, hr5, hs5, ho5, htn5, kt5⟩ := HM5.out
            obtain ⟨g5, cap5, gi, hv5, hcp5, hmx5, hil5, hcelli, hri, hgi⟩ := hr5.place_open HLK.out.2.1
            obtain ⟨g5', cap5', gk, hv5', _, _, hkl5, hcellk, hrk, hgk⟩ := hr5.place_open HLK.out.2.2.1
            have eg : g5' = g5 := by
              rw [hv5] at hv5'
              injection hv5' with h1 _ _
              injection h1 with h1
              injection h1 with h1 _ _
              exact h1.symm
            rw [eg] at hcellk
            clear hv5' eg
            obtain ⟨cur, hcur⟩ : ∃ cur, At w5 g5 134 cur := by
              rcases hr5.row.2 with ⟨h1, _⟩ | ⟨g', c', cur, h1, _, h2, _⟩
              · rw [hv5] at h1; cases h1
              · rw [hv5] at h1
                injection h1 with h1 _ _
                injection h1 with h1
                injection h1 with h1 _ _
                rw [h1]
                exact ⟨cur, h2⟩
            have hcuri : cur[sl]? = some (.pointer (some ⟨gi.b, 0, none⟩)) := by rw [← hcur.cell]; exact hcelli
            have hcurk : cur[kid]? = some (.pointer (some ⟨gk.b, 0, none⟩)) := by rw [← hcur.cell]; exact hcellk
            obtain ⟨KA5, kc5, hkv5, hkcap5, hkmx5, _⟩ := hri.2.2.form
            have hki5 : mi.kids.length ≤ 2000 := by
              exact Nat.le_trans (kids_len HWF.out HLK.out.2.1) HPL2.out
            have kN := hri.1
            rw [hkv5] at kN
            have kK := hrk.1
            have hrow5 := hri.2.2
            have ktree := hr5.tree
            rw [hv5] at ktree
            have n1 : gi.b ≠ gk.b := fun e => hr5.node_apart hgi hgk HLK.out.2.2.2.1 gi.b (by simp [NG.blocks]) (by rw [e]; simp [NG.blocks])
            have hgi5 : ∀ b ∈ gi.blocks, b ≠ tb ∧ b ≠ g5 := fun b hb => by
              have := hr5.node_ne hgi b hb
              rw [hv5] at this
              exact ⟨this.1, fun e => this.2 (by rw [e]; rfl)⟩
            have hgk5 : ∀ b ∈ gk.blocks, b ≠ tb ∧ b ≠ g5 := fun b hb => by
              have := hr5.node_ne hgk b hb
              rw [hv5] at this
              exact ⟨this.1, fun e => this.2 (by rw [e]; rfl)⟩
            have hgtb : g5 ≠ tb := hr5.row_ne (by rw [hv5]; rfl)
            have hmemi : ∀ b ∈ gi.blocks, b ∈ repBlocks tb nv5 G5 := fun b hb => mem_repBlocks_node hgi hb
            have n2 : gi.b ≠ tb ∧ gi.b ≠ g5 ∧ gi.b ≠ tc := ⟨(hgi5 _ (by simp [NG.blocks])).1, (hgi5 _ (by simp [NG.blocks])).2, fun e => htn5 (by rw [← e]; exact hmemi _ (by simp [NG.blocks]))⟩
            have n3 : ∀ b, gi.kv.ownBlock = some b → b ≠ gi.b ∧ b ≠ gk.b ∧ b ≠ tb ∧ b ≠ g5 ∧ b ≠ tc := fun b hb => by
              have hm : b ∈ gi.blocks := by simp [NG.blocks, hb]
              refine ⟨fun e => (NG.b_ne (hr5.node_nodup hgi)).2.1 (by rw [hb, e]), fun e => hr5.node_apart hgi hgk HLK.out.2.2.2.1 b hm (by rw [e]; simp [NG.blocks]), (hgi5 b hm).1, (hgi5 b hm).2, fun e => htn5 (by rw [← e]; exact hmemi b hm)⟩
            rw [hkv5] at n3
            have htb5 : tb ≠ tc := fun e => htn5 (by rw [← e]; simp [repBlocks])
            have hg5c : g5 ≠ tc := fun e => htn5 (by rw [← e]; simp [repBlocks, hv5, Value.ownBlock])
            obtain ⟨kn, hkn⟩ : ∃ kn, kn = mi.kids.length := ⟨_, rfl⟩
            rw [← hkn] at kN hrow5 hki5 hkcap5 hkv5 n3
            rw [hkv5] at hrow5
            have HKN := Lib.hid hkn
            have kt5c := kt5.cell
            have ktreec := ktree.cell
            have kNc := kN.cell
            have kNl := kN.lt
            have hcurc : ∀ i q, cur[i]? = some q → w5.cell? ⟨g5, i, none⟩ = some q := fun i q h => (hcur.cell i).trans h
            have kt5h := Lib.hid kt5
            have ktreeh := Lib.hid ktree
            have kNh := Lib.hid kN
            have kKh := Lib.hid kK
            have hcurh := Lib.hid hcur
            have HN3 := Lib.hid n3
            have HRow := Lib.hid hrow5
            have HR5 := Lib.hid (And.intro hr5 (And.intro hs5 (And.intro ho5 (And.intro hri (And.intro hgi (And.intro hrk (And.intro hgk hkv5)))))))
            have Hn := Lib.hid (And.intro n1 (And.intro n2 (And.intro htb5 (And.intro hg5c (And.intro hgtb (hgk5 gk.b (by simp [NG.blocks])))))))
            subst hv5
            have hN5 : ((T'.nodes.length : Nat) : Int) ≤ 2000 := by have := HPL2.out; omega
            have hil5' : (sl : Int) < (T'.nodes.length : Nat) := by omega
            have hkl5' : (kid : Int) < (T'.nodes.length : Nat) := by omega
            generalize T'.nodes.length = N5 at *
            have hgn1 : gi.b ≠ gk.b := Hn.out.1
            have hgn2 : gi.b ≠ tb := Hn.out.2.1.1
            have hgn3 : gi.b ≠ g5 := Hn.out.2.1.2.1
            have hgn4 : gi.b ≠ tc := Hn.out.2.1.2.2
            have hgn1' : gk.b ≠ gi.b := fun e => hgn1 e.symm
            have hgn2' : tb ≠ gi.b := fun e => hgn2 e.symm
            have hgn3' : g5 ≠ gi.b := fun e => hgn3 e.symm
            have hgn4' : tc ≠ gi.b := fun e => hgn4 e.symm
            clear hr5 hs5 ho5 hri hgi hrk hgk hkv5 n1 n2 n3 htb5 hg5c hgtb hgk5 hgi5 hmemi kt5 ktree kN kK hcur hrow5 hkn htn5 hcurc hcellk hcelli
            obtain ⟨i0, hi0, hz0, hz1, hz2⟩ := info_parts infoInt
            refine wp_region_held_drew (S := (fun w' => w'.cell? ⟨tc, 0, none⟩ = some (.pointer (some ⟨tb, 0, none⟩)) ∧ w'.cell? ⟨tb, 3, none⟩ = some (.slice (some ⟨g5, 0, none⟩) N5 cap5) ∧ w'.cell? ⟨g5, sl, none⟩ = some (.pointer (some ⟨gi.b, 0, none⟩)))) (by kernel_rfl) ?_ (fun hHeld => ?_)
            · (try dsimp only); exact keep3 (t1 := 36) (t2 := 143) (t3 := 134) (a := I T'.cap) (b := I T'.dep) (c := I (T'.count : Int)) (cur := cur) (by (repeat' (first | (with_reducible assumption) | (with_reducible refine unhid ?_; with_reducible assumption) | (with_reducible refine At.fresh _ _ _ (by first | (simp; done) | (simp; omega) | omega)) | (with_reducible apply At.set') | (with_reducible apply At.far) | (with_reducible apply At.alloc) | (with_reducible apply At.drew) | (with_reducible apply At.drewN) | exact (rfl : Array.setIfInBounds _ _ _ = _) | (refine Ne.symm ?_; simp; done) | (show _ ≠ _; simp; done) | (show _ ≠ _; simp; omega) | (show _ ≠ _; omega))); (first | done | fail)) (by (repeat' (first | (with_reducible assumption) | (with_reducible refine unhid ?_; with_reducible assumption) | (with_reducible refine At.fresh _ _ _ (by first | (simp; done) | (simp; omega) | omega)) | (with_reducible apply At.set') | (with_reducible apply At.far) | (with_reducible apply At.alloc) | (with_reducible apply At.drew) | (with_reducible apply At.drewN) | exact (rfl : Array.setIfInBounds _ _ _ = _) | (refine Ne.symm ?_; simp; done) | (show _ ≠ _; simp; done) | (show _ ≠ _; simp; omega) | (show _ ≠ _; omega))); (first | done | fail)) (by (repeat' (first | (with_reducible assumption) | (with_reducible refine unhid ?_; with_reducible assumption) | (with_reducible refine At.fresh _ _ _ (by first | (simp; done) | (simp; omega) | omega)) | (with_reducible apply At.set') | (with_reducible apply At.far) | (with_reducible apply At.alloc) | (with_reducible apply At.drew) | (with_reducible apply At.drewN) | exact (rfl : Array.setIfInBounds _ _ _ = _) | (refine Ne.symm ?_; simp; done) | (show _ ≠ _; simp; done) | (show _ ≠ _; simp; omega) | (show _ ≠ _; omega))); (first | done | fail)) hcuri
            (refine wpAnyH_take (i := 0) (oi := _) (v := ?_) (by simp only [List.getElem?_toArray, List.getElem?_cons_succ, List.getElem?_cons_zero]; rfl) (by kernel_rfl) (by kernel_rfl) (by kernel_rfl) (by intro _ _ _ h; exact h) (Or.inl ⟨by rfl, ?_⟩) (by assumption) ?_; rotate_left; (focus (((intro w hSw; (try dsimp only at hSw); go_simp); (try with_reducible rfl)); done)); (try simp only [Act.put, List.setIfInBounds_toArray, List.set_cons_zero, List.set_cons_succ]))
            (refine wpAnyH_take (i := 1) (oi := _) (v := ?_) (by simp only [List.getElem?_toArray, List.getElem?_cons_succ, List.getElem?_cons_zero]; rfl) (by kernel_rfl) (by kernel_rfl) (by kernel_rfl) (by intro _ _ _ h; exact h) (Or.inl ⟨by rfl, ?_⟩) (by assumption) ?_; rotate_left; (focus (((intro w hSw; (try dsimp only at hSw); go_simp); (try with_reducible rfl)); done)); (try simp only [Act.put, List.setIfInBounds_toArray, List.set_cons_zero, List.set_cons_succ]))
            (refine wpAnyH_take (i := 2) (oi := _) (v := ?_) (by simp only [List.getElem?_toArray, List.getElem?_cons_succ, List.getElem?_cons_zero]; rfl) (by kernel_rfl) (by kernel_rfl) (by kernel_rfl) (by intro _ _ _ h; exact h) (Or.inl ⟨by rfl, ?_⟩) (by assumption) ?_; rotate_left; (focus (((intro w hSw; (try dsimp only at hSw); go_simp); (try with_reducible rfl)); done)); (try simp only [Act.put, List.setIfInBounds_toArray, List.set_cons_zero, List.set_cons_succ]))
            (refine wpAnyH_take (i := 3) (oi := _) (v := ?_) (by simp only [List.getElem?_toArray, List.getElem?_cons_succ, List.getElem?_cons_zero]; rfl) (by kernel_rfl) (by kernel_rfl) (by kernel_rfl) (by intro _ _ _ h; exact h) (Or.inl ⟨by rfl, ?_⟩) (by assumption) ?_; rotate_left; (focus (((intro w hSw; (try dsimp only at hSw); go_simp); (try with_reducible rfl)); done)); (try simp only [Act.put, List.setIfInBounds_toArray, List.set_cons_zero, List.set_cons_succ]))
            (refine wpAnyH_take (i := 4) (oi := _) (v := ?_) (by simp only [List.getElem?_toArray, List.getElem?_cons_succ, List.getElem?_cons_zero]; rfl) (by kernel_rfl) (by kernel_rfl) (by kernel_rfl) (by intro _ _ _ h; exact h) (Or.inl ⟨by rfl, ?_⟩) (by assumption) ?_; rotate_left; (focus (((intro w hSw; (try dsimp only at hSw); go_simp); (try with_reducible rfl)); done)); (try simp only [Act.put, List.setIfInBounds_toArray, List.set_cons_zero, List.set_cons_succ]))
            (refine wpAnyH_take (i := 5) (oi := _) (v := ?_) (by simp only [List.getElem?_toArray, List.getElem?_cons_succ, List.getElem?_cons_zero]; rfl) (by kernel_rfl) (by kernel_rfl) (by kernel_rfl) (by intro _ _ _ h; exact h) (Or.inl ⟨by rfl, ?_⟩) (by assumption) ?_; rotate_left; (focus (((intro w hSw; (try dsimp only at hSw); go_simp); (try with_reducible rfl)); done)); (try simp only [Act.put, List.setIfInBounds_toArray, List.set_cons_zero, List.set_cons_succ]))
            (refine wpAnyH_take (i := 6) (oi := _) (v := ?_) (by simp only [List.getElem?_toArray, List.getElem?_cons_succ, List.getElem?_cons_zero]; rfl) (by kernel_rfl) (by kernel_rfl) (by kernel_rfl) (by intro _ _ _ h; exact h) (Or.inl ⟨by rfl, ?_⟩) (by assumption) ?_; rotate_left; (focus (((intro w hSw; (try dsimp only at hSw); go_simp); (try with_reducible rfl)); done)); (try simp only [Act.put, List.setIfInBounds_toArray, List.set_cons_zero, List.set_cons_succ]))
            (refine wpAnyH_take (i := 7) (oi := _) (v := ?_) (by simp only [List.getElem?_toArray, List.getElem?_cons_succ, List.getElem?_cons_zero]; rfl) (by kernel_rfl) (by kernel_rfl) (by kernel_rfl) (by intro _ _ _ h; exact h) (Or.inl ⟨by rfl, ?_⟩) (by assumption) ?_; rotate_left; (focus (((intro w hSw; (try dsimp only at hSw); go_simp); (try with_reducible rfl)); done)); (try simp only [Act.put, List.setIfInBounds_toArray, List.set_cons_zero, List.set_cons_succ]))
            (refine wpAnyH_take (i := 8) (oi := _) (v := ?_) (by simp only [List.getElem?_toArray, List.getElem?_cons_succ, List.getElem?_cons_zero]; rfl) (by kernel_rfl) (by kernel_rfl) (by kernel_rfl) (by intro _ _ _ h; exact h) (Or.inl ⟨by rfl, ?_⟩) (by assumption) ?_; rotate_left; (focus (((intro w hSw; (try dsimp only at hSw); go_simp); (try with_reducible rfl)); done)); (try simp only [Act.put, List.setIfInBounds_toArray, List.set_cons_zero, List.set_cons_succ]))
            (refine wpAnyH_take (i := 9) (oi := _) (v := ?_) (by simp only [List.getElem?_toArray, List.getElem?_cons_succ, List.getElem?_cons_zero]; rfl) (by kernel_rfl) (by kernel_rfl) (by kernel_rfl) (by intro _ _ _ h; exact h) (Or.inl ⟨by rfl, ?_⟩) (by assumption) ?_; rotate_left; (focus (((intro w hSw; (try dsimp only at hSw); go_simp); (try with_reducible rfl)); done)); (try simp only [Act.put, List.setIfInBounds_toArray, List.set_cons_zero, List.set_cons_succ]))
            (refine wpAnyH_take (i := 10) (oi := _) (v := ?_) (by simp only [List.getElem?_toArray, List.getElem?_cons_succ, List.getElem?_cons_zero]; rfl) (by kernel_rfl) (by kernel_rfl) (by kernel_rfl) (by intro _ _ _ h; exact h) (Or.inl ⟨by rfl, ?_⟩) (by assumption) ?_; rotate_left; (focus (((intro w hSw; (try dsimp only at hSw); go_simp); (try with_reducible rfl)); done)); (try simp only [Act.put, List.setIfInBounds_toArray, List.set_cons_zero, List.set_cons_succ]))
            (refine wpAnyH_take (i := 11) (oi := _) (v := ?_) (by simp only [List.getElem?_toArray, List.getElem?_cons_succ, List.getElem?_cons_zero]; rfl) (by kernel_rfl) (by kernel_rfl) (by kernel_rfl) (by intro _ _ _ h; exact h) (Or.inl ⟨by rfl, ?_⟩) (by assumption) ?_; rotate_left; (focus (((intro w hSw; (try dsimp only at hSw); go_simp); (try with_reducible rfl)); done)); (try simp only [Act.put, List.setIfInBounds_toArray, List.set_cons_zero, List.set_cons_succ]))
            (refine wpAnyH_take (i := 12) (oi := _) (v := ?_) (by simp only [List.getElem?_toArray, List.getElem?_cons_succ, List.getElem?_cons_zero]; rfl) (by kernel_rfl) (by kernel_rfl) (by kernel_rfl) (by intro _ _ _ h; exact h) (Or.inl ⟨by rfl, ?_⟩) (by assumption) ?_; rotate_left; (focus (((intro w hSw; (try dsimp only at hSw); go_simp); (try with_reducible rfl)); done)); (try simp only [Act.put, List.setIfInBounds_toArray, List.set_cons_zero, List.set_cons_succ]))
            (refine wpAnyH_take (i := 13) (oi := _) (v := ?_) (by simp only [List.getElem?_toArray, List.getElem?_cons_succ, List.getElem?_cons_zero]; rfl) (by kernel_rfl) (by kernel_rfl) (by kernel_rfl) (by intro _ _ _ h; exact h) (Or.inl ⟨by rfl, ?_⟩) (by assumption) ?_; rotate_left; (focus (((intro w hSw; (try dsimp only at hSw); go_simp); (try with_reducible rfl)); done)); (try simp only [Act.put, List.setIfInBounds_toArray, List.set_cons_zero, List.set_cons_succ]))
            (refine wpAnyH_take (i := 14) (oi := _) (v := ?_) (by simp only [List.getElem?_toArray, List.getElem?_cons_succ, List.getElem?_cons_zero]; rfl) (by kernel_rfl) (by kernel_rfl) (by kernel_rfl) (by intro _ _ _ h; exact h) (Or.inl ⟨by rfl, ?_⟩) (by assumption) ?_; rotate_left; (focus (((intro w hSw; (try dsimp only at hSw); go_simp); (try with_reducible rfl)); done)); (try simp only [Act.put, List.setIfInBounds_toArray, List.set_cons_zero, List.set_cons_succ]))
            (refine wpAnyH_take (i := 15) (oi := _) (v := ?_) (by simp only [List.getElem?_toArray, List.getElem?_cons_succ, List.getElem?_cons_zero]; rfl) (by kernel_rfl) (by kernel_rfl) (by kernel_rfl) (by intro _ _ _ h; exact h) (Or.inl ⟨by rfl, ?_⟩) (by assumption) ?_; rotate_left; (focus (((intro w hSw; (try dsimp only at hSw); go_simp); (try with_reducible rfl)); done)); (try simp only [Act.put, List.setIfInBounds_toArray, List.set_cons_zero, List.set_cons_succ]))
            (refine wpAnyH_take (i := 17) (oi := _) (v := ?_) (by simp only [List.getElem?_toArray, List.getElem?_cons_succ, List.getElem?_cons_zero]; rfl) (by kernel_rfl) (by kernel_rfl) (by kernel_rfl) (by intro _ _ _ h; exact h) (Or.inl ⟨by rfl, ?_⟩) (by assumption) ?_; rotate_left; (focus (((intro w hSw; (try dsimp only at hSw); go_simp); (try with_reducible rfl)); done)); (try simp only [Act.put, List.setIfInBounds_toArray, List.set_cons_zero, List.set_cons_succ]))
            refine wpAnyH_ready (rs := [16, 18]) (by kernel_rfl) (by simp) ?_
            refine AllReadyH.cons (o := _) (by simp only [List.getElem?_toArray, List.getElem?_cons_succ, List.getElem?_cons_zero]; rfl) (fun K hK => ?_) (AllReadyH.cons (o := _) (by simp only [List.getElem?_toArray, List.getElem?_cons_succ, List.getElem?_cons_zero]; rfl) (fun K hK => ?_) AllReadyH.nil)
            rotate_left
            focus
              go_simp
              (refine hK.out _ _ ?_ (fun hHeld => ?_); (focus (((try dsimp only); exact keep3 (t1 := 36) (t2 := 143) (t3 := 134) (a := I T'.cap) (b := I T'.dep) (c := I (T'.count : Int)) (cur := cur) (by (repeat' (first | (with_reducible assumption) | (with_reducible refine unhid ?_; with_reducible assumption) | (with_reducible refine At.fresh _ _ _ (by first | (simp; done) | (simp; omega) | omega)) | (with_reducible apply At.set') | (with_reducible apply At.far) | (with_reducible apply At.alloc) | (with_reducible apply At.drew) | (with_reducible apply At.drewN) | exact (rfl : Array.setIfInBounds _ _ _ = _) | (refine Ne.symm ?_; simp; done) | (show _ ≠ _; simp; done) | (show _ ≠ _; simp; omega) | (show _ ≠ _; omega))); (first | done | fail)) (by (repeat' (first | (with_reducible assumption) | (with_reducible refine unhid ?_; with_reducible assumption) | (with_reducible refine At.fresh _ _ _ (by first | (simp; done) | (simp; omega) | omega)) | (with_reducible apply At.set') | (with_reducible apply At.far) | (with_reducible apply At.alloc) | (with_reducible apply At.drew) | (with_reducible apply At.drewN) | exact (rfl : Array.setIfInBounds _ _ _ = _) | (refine Ne.symm ?_; simp; done) | (show _ ≠ _; simp; done) | (show _ ≠ _; simp; omega) | (show _ ≠ _; omega))); (first | done | fail)) (by (repeat' (first | (with_reducible assumption) | (with_reducible refine unhid ?_; with_reducible assumption) | (with_reducible refine At.fresh _ _ _ (by first | (simp; done) | (simp; omega) | omega)) | (with_reducible apply At.set') | (with_reducible apply At.far) | (with_reducible apply At.alloc) | (with_reducible apply At.drew) | (with_reducible apply At.drewN) | exact (rfl : Array.setIfInBounds _ _ _ = _) | (refine Ne.symm ?_; simp; done) | (show _ ≠ _; simp; done) | (show _ ≠ _; simp; omega) | (show _ ≠ _; omega))); (first | done | fail)) hcuri); done)); clear hK K; (try simp only [Act.put, List.setIfInBounds_toArray, List.set_cons_zero, List.set_cons_succ]))
              refine wpAnyH_ready (rs := [16]) (by kernel_rfl) (by simp) ?_
              refine AllReadyH.cons (o := _) (by simp only [List.getElem?_toArray, List.getElem?_cons_succ, List.getElem?_cons_zero]; rfl) (fun K hK => ?_) AllReadyH.nil
              go_simp
              (refine hK.out _ _ ?_ (fun hHeld => ?_); (focus (((try dsimp only); exact keep3 (t1 := 36) (t2 := 143) (t3 := 134) (a := I T'.cap) (b := I T'.dep) (c := I (T'.count : Int)) (cur := cur) (by (repeat' (first | (with_reducible assumption) | (with_reducible refine unhid ?_; with_reducible assumption) | (with_reducible refine At.fresh _ _ _ (by first | (simp; done) | (simp; omega) | omega)) | (with_reducible apply At.set') | (with_reducible apply At.far) | (with_reducible apply At.alloc) | (with_reducible apply At.drew) | (with_reducible apply At.drewN) | exact (rfl : Array.setIfInBounds _ _ _ = _) | (refine Ne.symm ?_; simp; done) | (show _ ≠ _; simp; done) | (show _ ≠ _; simp; omega) | (show _ ≠ _; omega))); (first | done | fail)) (by (repeat' (first | (with_reducible assumption) | (with_reducible refine unhid ?_; with_reducible assumption) | (with_reducible refine At.fresh _ _ _ (by first | (simp; done) | (simp; omega) | omega)) | (with_reducible apply At.set') | (with_reducible apply At.far) | (with_reducible apply At.alloc) | (with_reducible apply At.drew) | (with_reducible apply At.drewN) | exact (rfl : Array.setIfInBounds _ _ _ = _) | (refine Ne.symm ?_; simp; done) | (show _ ≠ _; simp; done) | (show _ ≠ _; simp; omega) | (show _ ≠ _; omega))); (first | done | fail)) (by (repeat' (first | (with_reducible assumption) | (with_reducible refine unhid ?_; with_reducible assumption) | (with_reducible refine At.fresh _ _ _ (by first | (simp; done) | (simp; omega) | omega)) | (with_reducible apply At.set') | (with_reducible apply At.far) | (with_reducible apply At.alloc) | (with_reducible apply At.drew) | (with_reducible apply At.drewN) | exact (rfl : Array.setIfInBounds _ _ _ = _) | (refine Ne.symm ?_; simp; done) | (show _ ≠ _; simp; done) | (show _ ≠ _; simp; omega) | (show _ ≠ _; omega))); (first | done | fail)) hcuri); done)); clear hK K; (try simp only [Act.put, List.setIfInBounds_toArray, List.set_cons_zero, List.set_cons_succ]))
              refine wpAnyH_ready (rs := [19]) (by kernel_rfl) (by simp) ?_
              refine AllReadyH.cons (o := _) (by simp only [List.getElem?_toArray, List.getElem?_cons_succ, List.getElem?_cons_zero]; rfl) (fun K hK => ?_) AllReadyH.nil
              (refine step_append_lies _ (by rfl) _ _ _ (by rfl) 0 3 i0 _ 1 8 Try.underlying81 hi0 hz0 hz1 hz2 rfl (by omega) (.slice KA5 kn kc5) kn (kidCells mi.kids) (by rfl) (by first | exact World.ownsRow.alloc HRow.out _ | exact (World.ownsRow.alloc HRow.out _).drew) ⟨w5.heap.size, 0, none⟩ 1 1 [I (kid : Int)] (by rfl) (by rfl) (by exact World.news_of_block (cs := #[I (kid : Int)]) (t := 3) (fr := (0, 0)) (heap_alloc_new w5 _)) (by intro u hu; simp at hu; rw [hu]; rfl) (by omega) (by unfold maxLen; omega) (by omega) (Nat.zero_le _) (w5.heap.size + 1) (by simp) ?_; intro g6 cap6 w6 hown6 hgrow0 hlie hlt6; have hgrow : (w5.alloc (.cells #[I (kid : Int)] 3)).grownBy w6 (Value.slice KA5 kn kc5).ownBlock := ⟨hgrow0.os, hgrow0.tape, hgrow0.output, hgrow0.size, hgrow0.block⟩; clear hgrow0; have kt6 := (kt5h.out.alloc (.cells #[I (kid : Int)] 3)).grown hgrow (fun e => (HN3.out _ e).2.2.2.2 rfl); have ktree6 := (ktreeh.out.alloc (.cells #[I (kid : Int)] 3)).grown hgrow (fun e => (HN3.out _ e).2.2.1 rfl); have kcur6 := (hcurh.out.alloc (.cells #[I (kid : Int)] 3)).grown hgrow (fun e => (HN3.out _ e).2.2.2.1 rfl); have kN6 := (kNh.out.alloc (.cells #[I (kid : Int)] 3)).grown hgrow (fun e => (HN3.out _ e).1 rfl); have kK6 := (kKh.out.alloc (.cells #[I (kid : Int)] 3)).grown hgrow (fun e => (HN3.out _ e).2.1 rfl); have kN6c := kN6.cell; have kN6f := kN6.frozen; have kt6h := Lib.hid kt6; have ktree6h := Lib.hid ktree6; have kcur6h := Lib.hid kcur6; have kN6h := Lib.hid kN6; have kK6h := Lib.hid kK6; have HG6 := Lib.hid (And.intro hown6 (And.intro hgrow hlie)); clear hown6 hgrow hlie kt6 ktree6 kcur6 kN6 kK6)
              (refine hK.out _ _ ?_ (fun hHeld => ?_); (focus (((try dsimp only); exact keep3 (t1 := 36) (t2 := 143) (t3 := 134) (a := I T'.cap) (b := I T'.dep) (c := I (T'.count : Int)) (cur := cur) (by (repeat' (first | (with_reducible assumption) | (with_reducible refine unhid ?_; with_reducible assumption) | (with_reducible refine At.fresh _ _ _ (by first | (simp; done) | (simp; omega) | omega)) | (with_reducible apply At.set') | (with_reducible apply At.far) | (with_reducible apply At.alloc) | (with_reducible apply At.drew) | (with_reducible apply At.drewN) | exact (rfl : Array.setIfInBounds _ _ _ = _) | (refine Ne.symm ?_; simp; done) | (show _ ≠ _; simp; done) | (show _ ≠ _; simp; omega) | (show _ ≠ _; omega))); (first | done | fail)) (by (repeat' (first | (with_reducible assumption) | (with_reducible refine unhid ?_; with_reducible assumption) | (with_reducible refine At.fresh _ _ _ (by first | (simp; done) | (simp; omega) | omega)) | (with_reducible apply At.set') | (with_reducible apply At.far) | (with_reducible apply At.alloc) | (with_reducible apply At.drew) | (with_reducible apply At.drewN) | exact (rfl : Array.setIfInBounds _ _ _ = _) | (refine Ne.symm ?_; simp; done) | (show _ ≠ _; simp; done) | (show _ ≠ _; simp; omega) | (show _ ≠ _; omega))); (first | done | fail)) (by (repeat' (first | (with_reducible assumption) | (with_reducible refine unhid ?_; with_reducible assumption) | (with_reducible refine At.fresh _ _ _ (by first | (simp; done) | (simp; omega) | omega)) | (with_reducible apply At.set') | (with_reducible apply At.far) | (with_reducible apply At.alloc) | (with_reducible apply At.drew) | (with_reducible apply At.drewN) | exact (rfl : Array.setIfInBounds _ _ _ = _) | (refine Ne.symm ?_; simp; done) | (show _ ≠ _; simp; done) | (show _ ≠ _; simp; omega) | (show _ ≠ _; omega))); (first | done | fail)) hcuri); done)); clear hK K; (try simp only [Act.put, List.setIfInBounds_toArray, List.set_cons_zero, List.set_cons_succ]))
              (refine wpAnyH_take (i := 20) (oi := _) (v := ?_) (by simp only [List.getElem?_toArray, List.getElem?_cons_succ, List.getElem?_cons_zero]; rfl) (by kernel_rfl) (by kernel_rfl) (by kernel_rfl) (by intro _ _ _ h; exact h) (Or.inl ⟨by rfl, ?_⟩) (by assumption) ?_; rotate_left; (focus (((intro w hSw; (try dsimp only at hSw); go_simp); (try with_reducible rfl)); done)); (try simp only [Act.put, List.setIfInBounds_toArray, List.set_cons_zero, List.set_cons_succ]))
              (refine wpAnyH_take (i := 21) (oi := _) (v := ?_) (by simp only [List.getElem?_toArray, List.getElem?_cons_succ, List.getElem?_cons_zero]; rfl) (by kernel_rfl) (by kernel_rfl) (by kernel_rfl) (by intro _ _ _ h; exact h) (Or.inl ⟨by rfl, ?_⟩) (by assumption) ?_; rotate_left; (focus (((intro w hSw; (try dsimp only at hSw); go_simp); (try with_reducible rfl)); done)); (try simp only [Act.put, List.setIfInBounds_toArray, List.set_cons_zero, List.set_cons_succ]))
              refine wpAnyH_ready (rs := [22]) (by kernel_rfl) (by simp) ?_
              refine AllReadyH.cons (o := _) (by simp only [List.getElem?_toArray, List.getElem?_cons_succ, List.getElem?_cons_zero]; rfl) (fun K hK => ?_) AllReadyH.nil
              go_simp
              (refine hK.out _ _ ?_ (fun hHeld => ?_); (focus (((try dsimp only); exact keep3 (t1 := 36) (t2 := 143) (t3 := 134) (a := I T'.cap) (b := I T'.dep) (c := I (T'.count : Int)) (cur := cur) (by (repeat' (first | (with_reducible assumption) | (with_reducible refine unhid ?_; with_reducible assumption) | (with_reducible refine At.fresh _ _ _ (by first | (simp; done) | (simp; omega) | omega)) | (with_reducible apply At.set') | (with_reducible apply At.far) | (with_reducible apply At.alloc) | (with_reducible apply At.drew) | (with_reducible apply At.drewN) | exact (rfl : Array.setIfInBounds _ _ _ = _) | (refine Ne.symm ?_; simp; done) | (show _ ≠ _; simp; done) | (show _ ≠ _; simp; omega) | (show _ ≠ _; omega))); (first | done | fail)) (by (repeat' (first | (with_reducible assumption) | (with_reducible refine unhid ?_; with_reducible assumption) | (with_reducible refine At.fresh _ _ _ (by first | (simp; done) | (simp; omega) | omega)) | (with_reducible apply At.set') | (with_reducible apply At.far) | (with_reducible apply At.alloc) | (with_reducible apply At.drew) | (with_reducible apply At.drewN) | exact (rfl : Array.setIfInBounds _ _ _ = _) | (refine Ne.symm ?_; simp; done) | (show _ ≠ _; simp; done) | (show _ ≠ _; simp; omega) | (show _ ≠ _; omega))); (first | done | fail)) (by (repeat' (first | (with_reducible assumption) | (with_reducible refine unhid ?_; with_reducible assumption) | (with_reducible refine At.fresh _ _ _ (by first | (simp; done) | (simp; omega) | omega)) | (with_reducible apply At.set') | (with_reducible apply At.far) | (with_reducible apply At.alloc) | (with_reducible apply At.drew) | (with_reducible apply At.drewN) | exact (rfl : Array.setIfInBounds _ _ _ = _) | (refine Ne.symm ?_; simp; done) | (show _ ≠ _; simp; done) | (show _ ≠ _; simp; omega) | (show _ ≠ _; omega))); (first | done | fail)) hcuri); done)); clear hK K; (try simp only [Act.put, List.setIfInBounds_toArray, List.set_cons_zero, List.set_cons_succ]))
              refine wpAnyH_done (by kernel_rfl) ?_ _
            rotate_left
            focus
              go_simp
              (refine hK.out _ _ ?_ (fun hHeld => ?_); (focus (((try dsimp only); exact keep3 (t1 := 36) (t2 := 143) (t3 := 134) (a := I T'.cap) (b := I T'.dep) (c := I (T'.count : Int)) (cur := cur) (by (repeat' (first | (with_reducible assumption) | (with_reducible refine unhid ?_; with_reducible assumption) | (with_reducible refine At.fresh _ _ _ (by first | (simp; done) | (simp; omega) | omega)) | (with_reducible apply At.set') | (with_reducible apply At.far) | (with_reducible apply At.alloc) | (with_reducible apply At.drew) | (with_reducible apply At.drewN) | exact (rfl : Array.setIfInBounds _ _ _ = _) | (refine Ne.symm ?_; simp; done) | (show _ ≠ _; simp; done) | (show _ ≠ _; simp; omega) | (show _ ≠ _; omega))); (first | done | fail)) (by (repeat' (first | (with_reducible assumption) | (with_reducible refine unhid ?_; with_reducible assumption) | (with_reducible refine At.fresh _ _ _ (by first | (simp; done) | (simp; omega) | omega)) | (with_reducible apply At.set') | (with_reducible apply At.far) | (with_reducible apply At.alloc) | (with_reducible apply At.drew) | (with_reducible apply At.drewN) | exact (rfl : Array.setIfInBounds _ _ _ = _) | (refine Ne.symm ?_; simp; done) | (show _ ≠ _; simp; done) | (show _ ≠ _; simp; omega) | (show _ ≠ _; omega))); (first | done | fail)) (by (repeat' (first | (with_reducible assumption) | (with_reducible refine unhid ?_; with_reducible assumption) | (with_reducible refine At.fresh _ _ _ (by first | (simp; done) | (simp; omega) | omega)) | (with_reducible apply At.set') | (with_reducible apply At.far) | (with_reducible apply At.alloc) | (with_reducible apply At.drew) | (with_reducible apply At.drewN) | exact (rfl : Array.setIfInBounds _ _ _ = _) | (refine Ne.symm ?_; simp; done) | (show _ ≠ _; simp; done) | (show _ ≠ _; simp; omega) | (show _ ≠ _; omega))); (first | done | fail)) hcuri); done)); clear hK K; (try simp only [Act.put, List.setIfInBounds_toArray, List.set_cons_zero, List.set_cons_succ]))
              refine wpAnyH_ready (rs := [18]) (by kernel_rfl) (by simp) ?_
              refine AllReadyH.cons (o := _) (by simp only [List.getElem?_toArray, List.getElem?_cons_succ, List.getElem?_cons_zero]; rfl) (fun K hK => ?_) AllReadyH.nil
              go_simp
              (refine hK.out _ _ ?_ (fun hHeld => ?_); (focus (((try dsimp only); exact keep3 (t1 := 36) (t2 := 143) (t3 := 134) (a := I T'.cap) (b := I T'.dep) (c := I (T'.count : Int)) (cur := cur) (by (repeat' (first | (with_reducible assumption) | (with_reducible refine unhid ?_; with_reducible assumption) | (with_reducible refine At.fresh _ _ _ (by first | (simp; done) | (simp; omega) | omega)) | (with_reducible apply At.set') | (with_reducible apply At.far) | (with_reducible apply At.alloc) | (with_reducible apply At.drew) | (with_reducible apply At.drewN) | exact (rfl : Array.setIfInBounds _ _ _ = _) | (refine Ne.symm ?_; simp; done) | (show _ ≠ _; simp; done) | (show _ ≠ _; simp; omega) | (show _ ≠ _; omega))); (first | done | fail)) (by (repeat' (first | (with_reducible assumption) | (with_reducible refine unhid ?_; with_reducible assumption) | (with_reducible refine At.fresh _ _ _ (by first | (simp; done) | (simp; omega) | omega)) | (with_reducible apply At.set') | (with_reducible apply At.far) | (with_reducible apply At.alloc) | (with_reducible apply At.drew) | (with_reducible apply At.drewN) | exact (rfl : Array.setIfInBounds _ _ _ = _) | (refine Ne.symm ?_; simp; done) | (show _ ≠ _; simp; done) | (show _ ≠ _; simp; omega) | (show _ ≠ _; omega))); (first | done | fail)) (by (repeat' (first | (with_reducible assumption) | (with_reducible refine unhid ?_; with_reducible assumption) | (with_reducible refine At.fresh _ _ _ (by first | (simp; done) | (simp; omega) | omega)) | (with_reducible apply At.set') | (with_reducible apply At.far) | (with_reducible apply At.alloc) | (with_reducible apply At.drew) | (with_reducible apply At.drewN) | exact (rfl : Array.setIfInBounds _ _ _ = _) | (refine Ne.symm ?_; simp; done) | (show _ ≠ _; simp; done) | (show _ ≠ _; simp; omega) | (show _ ≠ _; omega))); (first | done | fail)) hcuri); done)); clear hK K; (try simp only [Act.put, List.setIfInBounds_toArray, List.set_cons_zero, List.set_cons_succ]))
              refine wpAnyH_ready (rs := [19]) (by kernel_rfl) (by simp) ?_
              refine AllReadyH.cons (o := _) (by simp only [List.getElem?_toArray, List.getElem?_cons_succ, List.getElem?_cons_zero]; rfl) (fun K hK => ?_) AllReadyH.nil
              (refine step_append_lies _ (by rfl) _ _ _ (by rfl) 0 3 i0 _ 1 8 Try.underlying81 hi0 hz0 hz1 hz2 rfl (by omega) (.slice KA5 kn kc5) kn (kidCells mi.kids) (by rfl) (by first | exact World.ownsRow.alloc HRow.out _ | exact (World.ownsRow.alloc HRow.out _).drew) ⟨w5.heap.size, 0, none⟩ 1 1 [I (kid : Int)] (by rfl) (by rfl) (by exact World.news_of_block (cs := #[I (kid : Int)]) (t := 3) (fr := (0, 0)) (heap_alloc_new w5 _)) (by intro u hu; simp at hu; rw [hu]; rfl) (by omega) (by unfold maxLen; omega) (by omega) (Nat.zero_le _) (w5.heap.size + 1) (by simp) ?_; intro g6 cap6 w6 hown6 hgrow0 hlie hlt6; have hgrow : (w5.alloc (.cells #[I (kid : Int)] 3)).grownBy w6 (Value.slice KA5 kn kc5).ownBlock := ⟨hgrow0.os, hgrow0.tape, hgrow0.output, hgrow0.size, hgrow0.block⟩; clear hgrow0; have kt6 := (kt5h.out.alloc (.cells #[I (kid : Int)] 3)).grown hgrow (fun e => (HN3.out _ e).2.2.2.2 rfl); have ktree6 := (ktreeh.out.alloc (.cells #[I (kid : Int)] 3)).grown hgrow (fun e => (HN3.out _ e).2.2.1 rfl); have kcur6 := (hcurh.out.alloc (.cells #[I (kid : Int)] 3)).grown hgrow (fun e => (HN3.out _ e).2.2.2.1 rfl); have kN6 := (kNh.out.alloc (.cells #[I (kid : Int)] 3)).grown hgrow (fun e => (HN3.out _ e).1 rfl); have kK6 := (kKh.out.alloc (.cells #[I (kid : Int)] 3)).grown hgrow (fun e => (HN3.out _ e).2.1 rfl); have kN6c := kN6.cell; have kN6f := kN6.frozen; have kt6h := Lib.hid kt6; have ktree6h := Lib.hid ktree6; have kcur6h := Lib.hid kcur6; have kN6h := Lib.hid kN6; have kK6h := Lib.hid kK6; have HG6 := Lib.hid (And.intro hown6 (And.intro hgrow hlie)); clear hown6 hgrow hlie kt6 ktree6 kcur6 kN6 kK6)
              (refine hK.out _ _ ?_ (fun hHeld => ?_); (focus (((try dsimp only); exact keep3 (t1 := 36) (t2 := 143) (t3 := 134) (a := I T'.cap) (b := I T'.dep) (c := I (T'.count : Int)) (cur := cur) (by (repeat' (first | (with_reducible assumption) | (with_reducible refine unhid ?_; with_reducible assumption) | (with_reducible refine At.fresh _ _ _ (by first | (simp; done) | (simp; omega) | omega)) | (with_reducible apply At.set') | (with_reducible apply At.far) | (with_reducible apply At.alloc) | (with_reducible apply At.drew) | (with_reducible apply At.drewN) | exact (rfl : Array.setIfInBounds _ _ _ = _) | (refine Ne.symm ?_; simp; done) | (show _ ≠ _; simp; done) | (show _ ≠ _; simp; omega) | (show _ ≠ _; omega))); (first | done | fail)) (by (repeat' (first | (with_reducible assumption) | (with_reducible refine unhid ?_; with_reducible assumption) | (with_reducible refine At.fresh _ _ _ (by first | (simp; done) | (simp; omega) | omega)) | (with_reducible apply At.set') | (with_reducible apply At.far) | (with_reducible apply At.alloc) | (with_reducible apply At.drew) | (with_reducible apply At.drewN) | exact (rfl : Array.setIfInBounds _ _ _ = _) | (refine Ne.symm ?_; simp; done) | (show _ ≠ _; simp; done) | (show _ ≠ _; simp; omega) | (show _ ≠ _; omega))); (first | done | fail)) (by (repeat' (first | (with_reducible assumption) | (with_reducible refine unhid ?_; with_reducible assumption) | (with_reducible refine At.fresh _ _ _ (by first | (simp; done) | (simp; omega) | omega)) | (with_reducible apply At.set') | (with_reducible apply At.far) | (with_reducible apply At.alloc) | (with_reducible apply At.drew) | (with_reducible apply At.drewN) | exact (rfl : Array.setIfInBounds _ _ _ = _) | (refine Ne.symm ?_; simp; done) | (show _ ≠ _; simp; done) | (show _ ≠ _; simp; omega) | (show _ ≠ _; omega))); (first | done | fail)) hcuri); done)); clear hK K; (try simp only [Act.put, List.setIfInBounds_toArray, List.set_cons_zero, List.set_cons_succ]))
              (refine wpAnyH_take (i := 20) (oi := _) (v := ?_) (by simp only [List.getElem?_toArray, List.getElem?_cons_succ, List.getElem?_cons_zero]; rfl) (by kernel_rfl) (by kernel_rfl) (by kernel_rfl) (by intro _ _ _ h; exact h) (Or.inl ⟨by rfl, ?_⟩) (by assumption) ?_; rotate_left; (focus (((intro w hSw; (try dsimp only at hSw); go_simp); (try with_reducible rfl)); done)); (try simp only [Act.put, List.setIfInBounds_toArray, List.set_cons_zero, List.set_cons_succ]))
              (refine wpAnyH_take (i := 21) (oi := _) (v := ?_) (by simp only [List.getElem?_toArray, List.getElem?_cons_succ, List.getElem?_cons_zero]; rfl) (by kernel_rfl) (by kernel_rfl) (by kernel_rfl) (by intro _ _ _ h; exact h) (Or.inl ⟨by rfl, ?_⟩) (by assumption) ?_; rotate_left; (focus (((intro w hSw; (try dsimp only at hSw); go_simp); (try with_reducible rfl)); done)); (try simp only [Act.put, List.setIfInBounds_toArray, List.set_cons_zero, List.set_cons_succ]))
              refine wpAnyH_ready (rs := [22]) (by kernel_rfl) (by simp) ?_
              refine AllReadyH.cons (o := _) (by simp only [List.getElem?_toArray, List.getElem?_cons_succ, List.getElem?_cons_zero]; rfl) (fun K hK => ?_) AllReadyH.nil
              go_simp
              (refine hK.out _ _ ?_ (fun hHeld => ?_); (focus (((try dsimp only); exact keep3 (t1 := 36) (t2 := 143) (t3 := 134) (a := I T'.cap) (b := I T'.dep) (c := I (T'.count : Int)) (cur := cur) (by (repeat' (first | (with_reducible assumption) | (with_reducible refine unhid ?_; with_reducible assumption) | (with_reducible refine At.fresh _ _ _ (by first | (simp; done) | (simp; omega) | omega)) | (with_reducible apply At.set') | (with_reducible apply At.far) | (with_reducible apply At.alloc) | (with_reducible apply At.drew) | (with_reducible apply At.drewN) | exact (rfl : Array.setIfInBounds _ _ _ = _) | (refine Ne.symm ?_; simp; done) | (show _ ≠ _; simp; done) | (show _ ≠ _; simp; omega) | (show _ ≠ _; omega))); (first | done | fail)) (by (repeat' (first | (with_reducible assumption) | (with_reducible refine unhid ?_; with_reducible assumption) | (with_reducible refine At.fresh _ _ _ (by first | (simp; done) | (simp; omega) | omega)) | (with_reducible apply At.set') | (with_reducible apply At.far) | (with_reducible apply At.alloc) | (with_reducible apply At.drew) | (with_reducible apply At.drewN) | exact (rfl : Array.setIfInBounds _ _ _ = _) | (refine Ne.symm ?_; simp; done) | (show _ ≠ _; simp; done) | (show _ ≠ _; simp; omega) | (show _ ≠ _; omega))); (first | done | fail)) (by (repeat' (first | (with_reducible assumption) | (with_reducible refine unhid ?_; with_reducible assumption) | (with_reducible refine At.fresh _ _ _ (by first | (simp; done) | (simp; omega) | omega)) | (with_reducible apply At.set') | (with_reducible apply At.far) | (with_reducible apply At.alloc) | (with_reducible apply At.drew) | (with_reducible apply At.drewN) | exact (rfl : Array.setIfInBounds _ _ _ = _) | (refine Ne.symm ?_; simp; done) | (show _ ≠ _; simp; done) | (show _ ≠ _; simp; omega) | (show _ ≠ _; omega))); (first | done | fail)) hcuri); done)); clear hK K; (try simp only [Act.put, List.setIfInBounds_toArray, List.set_cons_zero, List.set_cons_succ]))
              refine wpAnyH_done (by kernel_rfl) ?_ _
            all_goals
              have kt6c := kt6h.out.cell
              have ktree6c := ktree6h.out.cell
              have kK6c := kK6h.out.cell
              have kK6f := kK6h.out.frozen
              have kK6l := kK6h.out.lt
              have hrow6 : w6.cell? ⟨g5, kid, none⟩ = some (.pointer (some ⟨gk.b, 0, none⟩)) := (kcur6h.out.cell kid).trans hcurk
              go_wp2_with fail
              refine ⟨⟨j + 1, by omega, by go_num, ?_⟩, by simp [intOf]; omega⟩
              have hks : (mi.kids ++ [kid]).length = kn + 1 := by rw [List.length_append, ← HKN.out]; rfl
              have hkc6 : kidCells (mi.kids ++ [kid]) = kidCells mi.kids ++ [I (kid : Int)] := by simp [kidCells]
              have hrow7 : Row w6 3 1 (.slice (some ⟨g6, 0, none⟩) (kn + 1) cap6) (mi.kids ++ [kid]).length (kidCells (mi.kids ++ [kid])) := by rw [hks, hkc6]; exact HG6.out.1
              have hgr := HG6.out.2.1
              have hb6 : Below w5.heap.size w5 (w5.alloc (.cells #[I (kid : Int)] 3)) := (Below.refl _ _).alloc (Nat.le_refl _) _
              have hM := Mut.linked (S := fun b => b ∈ repBlocks tb (.slice (some ⟨g5, 0, none⟩) N5 cap5) G5) (u := some sl) HR5.out.1 (fun b hb => hb) HLK.out.2.1 HR5.out.2.2.2.2.1 HR5.out.2.2.2.1 HLK.out.2.2.1 HR5.out.2.2.2.2.2.2.1 HR5.out.2.2.2.2.2.1 HLK.out.2.2.2.1 hb6 hrow7 (w2 := w6)
                ⟨hgr.os, hgr.tape, hgr.output, hgr.size, fun b hb1 hn => hgr.block b hb1 (fun e => hn (by rw [HR5.out.2.2.2.2.2.2.2]; exact e.symm))⟩
                (fun b hb1 => by
                  have e : b = g6 := by simpa [Value.ownBlock] using hb1.symm
                  subst e
                  rw [HR5.out.2.2.2.2.2.2.2]
                  rcases HG6.out.2.2 with h1 | h1
                  · exact .inl h1
                  · right; rw [h1]; simp) (w' := (w6.setCell ⟨gi.b, 3, none⟩ (.slice (some ⟨g6, 0, none⟩) (kn + 1) cap6)).setCell ⟨gk.b, 4, none⟩ (I (DT.upI (some sl)))) rfl
              rw [HLK.out.1]
              exact Mut.seq HR5.out.2.2.1 HR5.out.2.1 (Below.refl _ _) hM
          · have hjm : j = km := by omega
            subst hjm
            go_wp2_with fail
            go_ret
            have e1 : ks.take j = ks := List.take_of_length_le (by have := HL.out.1; omega)
            have h1 := hst.out
            rw [e1] at h1
            exact ⟨rfl, h1⟩
end
end Go.Proofs.Ytnnjlpkjpbbklaa
