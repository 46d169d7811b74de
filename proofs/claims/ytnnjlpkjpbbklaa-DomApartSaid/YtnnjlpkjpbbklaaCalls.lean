/-
  A row of chapter 8's calls as it lies in memory; Heavy. Conditions: the row lies in memory.
-/
import Derived.Test.YtnnjlpkjpbbklaaWeigh
set_option linter.unusedVariables false
set_option linter.unusedSimpArgs false
namespace Go.Proofs.Ytnnjlpkjpbbklaa
open Go.RowKit

/-- A call, and where its slices lie. -/
structure CN where
  what : Int
  a : Int
  b : Int
  c : Int
  s : Bytes
  attrs : List (Bytes × Bytes)
  av : Value
  n : VN
def CN.cells (c : CN) : List Value := [I c.what, I c.a, I c.b, I c.c, .string c.s, c.av] ++ c.n.cells
def CN.call (c : CN) : PCall := ⟨c.what, c.a, c.b, c.c, c.s, c.attrs, c.n.node⟩
theorem CN.cells_length (c : CN) : c.cells.length = 10 := by simp [CN.cells, VN.cells_length]
def callsCells (l : List CN) : List Value := l.flatMap CN.cells
theorem callsCells_length (l : List CN) : (callsCells l).length = l.length * 10 := by
  induction l with
  | nil => rfl
  | cons k ks ih => simp only [callsCells, List.flatMap_cons, List.length_append, List.length_cons, CN.cells_length] at *; omega
theorem callsCells_get : ∀ (l : List CN) (i : Nat) (hi : i < l.length) (c : Nat), c < 10 → (callsCells l)[i * 10 + c]? = (l[i]).cells[c]? := by
  intro l
  induction l with
  | nil => intro i hi; simp at hi
  | cons k ks ih =>
    intro i hi c hc
    have hk := CN.cells_length k
    show (k.cells ++ callsCells ks)[i * 10 + c]? = _
    cases i with
    | zero => rw [List.getElem?_append_left (by omega)]; simp
    | succ i =>
      rw [List.getElem?_append_right (by omega)]
      rw [show (i + 1) * 10 + c - k.cells.length = i * 10 + c by omega, ih i (by simpa using hi) c hc]
      simp

/-- A row of calls lies there, in blocks of R. -/
structure CallsAt (w : World) (R : Nat → Prop) (v : Value) (l : List CN) : Prop where
  row : RowQ w R 10 v l.length (callsCells l)
  attrs : ∀ c ∈ l, RowQ w R 2 c.av c.attrs.length (attrCells c.attrs)
  node : ∀ c ∈ l, PV w R c.n
theorem CallsAt.keep {w w' : World} {R : Nat → Prop} {v : Value} {l : List CN} (h : CallsAt w R v l) (hk : ∀ b, R b → w'.heap[b]? = w.heap[b]?) : CallsAt w' R v l :=
  ⟨h.row.keep hk, fun c hc => (h.attrs c hc).keep hk, fun c hc => (h.node c hc).keep hk⟩
/-- One call's ten cells. -/
theorem CallsAt.get {w : World} {R : Nat → Prop} {v : Value} {l : List CN} (h : CallsAt w R v l) {j : Nat} (hj : j < l.length) :
    ∃ b off cap, v = .slice (some ⟨b, off, none⟩) l.length cap ∧ R b ∧ ∀ q, q < 10 → w.cell? ⟨b, off + j * 10 + q, none⟩ = (l[j]).cells[q]? := by
  obtain ⟨b, off, cap, hv, _, _, hRb, hcell⟩ := h.row.open_ (by omega)
  refine ⟨b, off, cap, hv, hRb, fun q hq => ?_⟩
  have h2 := callsCells_get l j hj q hq
  obtain ⟨u, hu⟩ : ∃ u, (l[j]).cells[q]? = some u := ⟨(l[j]).cells[q]'(by rw [CN.cells_length]; exact hq), List.getElem?_eq_getElem _⟩
  rw [hu] at h2 ⊢
  rw [Nat.add_assoc]
  exact hcell _ _ h2

/-- What is handed in in calls is not too much. -/
def heavyL : List PCall → Int → Bool
  | [], left => decide (left < 0)
  | c :: l, left => if left < 0 then true else if 20000 < c.s.size ∨ 200 < c.attrs.length then true else heavyL l (c.n.weigh (left - (c.attrs.length : Int) - ((c.s.size / 64 : Nat) : Int)))
def heavy (l : List PCall) : Bool := if 200 < l.length then true else heavyL l 4000
/-- A call that is not too much. -/
structure Light (c : PCall) : Prop where
  s : c.s.size ≤ 20000
  attrs : c.attrs.length ≤ 200
  small : c.n.small
  thin : c.n.thin
  size : c.n.size ≤ 5000
theorem heavyL_cons (c : PCall) (l : List PCall) (left : Int) : heavyL (c :: l) left = if left < 0 then true else if 20000 < c.s.size ∨ 200 < c.attrs.length then true else heavyL l (c.n.weigh (left - (c.attrs.length : Int) - ((c.s.size / 64 : Nat) : Int))) := rfl
theorem heavyL_light : ∀ (l : List PCall) (left : Int), left ≤ 4000 → heavyL l left = false → ∀ c ∈ l, Light c := by
  intro l
  induction l with
  | nil => intro left _ _ c hc; cases hc
  | cons x l ih =>
    intro left hl h
    unfold heavyL at h
    split at h
    · cases h
    · split at h
      · cases h
      · rename_i h1 h2
        simp only [not_or, Nat.not_lt] at h2
        have hx0 : (0 : Int) ≤ ((x.s.size / 64 : Nat) : Int) := by omega
        have hw : 0 ≤ x.n.weigh (left - (x.attrs.length : Int) - ((x.s.size / 64 : Nat) : Int)) := by
          by_cases e : x.n.weigh (left - (x.attrs.length : Int) - ((x.s.size / 64 : Nat) : Int)) < 0
          · cases l with
            | nil => unfold heavyL at h; rw [decide_eq_false_iff_not] at h; exact absurd e h
            | cons y l => unfold heavyL at h; rw [if_pos e] at h; cases h
          · omega
        obtain ⟨k1, k2, k3⟩ := PNode.weigh_ok x.n _ (by omega) hw
        intro c hc
        rcases List.mem_cons.1 hc with rfl | hc
        · exact ⟨h2.1, h2.2, k1, k2, by omega⟩
        · exact ih _ (by omega) h c hc
theorem heavy_light {l : List PCall} (h : heavy l = false) : l.length ≤ 200 ∧ ∀ c ∈ l, Light c := by
  unfold heavy at h
  split at h
  · cases h
  · exact ⟨by omega, heavyL_light l 4000 (by omega) h⟩
theorem heavyL_neg (l : List PCall) {left : Int} (h : left < 0) : heavyL l left = true := by
  cases l with
  | nil => simp [heavyL, h]
  | cons x l => unfold heavyL; rw [if_pos h]

set_option maxHeartbeats 2000000 in
theorem heavy_any {w : World} {R : Nat → Prop} {v : Value} {l : List CN} (h : CallsAt w R v l) (hR : ∀ b, R b → b < w.heap.size) :
    Calls Try.prog 30 #[v] w (Ret (.bool (heavy (l.map CN.call))) w) := by
  obtain ⟨A, cap, hv, hcap, hmx, hA⟩ := h.row.form
  have hlm : l.length ≤ maxLen := by omega
  unfold heavy
  rw [List.length_map]
  by_cases hlen : 200 < l.length
  · rw [if_pos hlen]
    have c1 : decide (200 < (l.length : Int)) = true := by simp; omega
    have c1' : decide (200 < l.length) = true := by simp; omega
    subst hv
    clear h hA hlen
    generalize l.length = n at *
    go_enter Try.func30, Try.ntmps30
    go_wp2_with fail
    go_ret
    exact ⟨rfl, (by repeat (first | exact Below.refl _ _ | assumption | (refine Below.setCell ?_ (by first | (simp; done) | (simp; omega) | omega) _) | (refine Below.alloc ?_ (by first | (simp; done) | (simp; omega) | omega) _) | (refine Below.drew ?_) | (refine Below.drewN' ?_ _)))⟩
  · rw [if_neg hlen]
    have c1 : decide (200 < (l.length : Int)) = false := by simp; omega
    have c1' : decide (200 < l.length) = false := by simp; omega
    have hn200 : l.length ≤ 200 := by omega
    have HG : Hid (∀ (wr : World), Below w.heap.size w wr → ∀ j (hj : j < l.length), ∃ b off, A = some ⟨b, off, none⟩ ∧ R b ∧ ∀ q, q < 10 → wr.cell? ⟨b, off + j * 10 + q, none⟩ = (l[j]).cells[q]?) := by
      intro wr hb j hj
      obtain ⟨b, off, c', hv', hRb, hc⟩ := (h.keep fun b hb1 => hb.block b (hR b hb1)).get hj
      rw [hv] at hv'
      injection hv' with e1 _ _
      exact ⟨b, off, e1, hRb, hc⟩
    subst hv
    have HH := Lib.hid (And.intro h hR)
    clear h hR hA hlen
    obtain ⟨n, hn⟩ : ∃ n, n = l.length := ⟨_, rfl⟩
    rw [← hn] at hcap hlm c1 c1' hn200 ⊢
    have HN := Lib.hid hn
    clear hn
    go_enter Try.func30, Try.ntmps30
    go_wp2_with fail
    go_loopw [3, 4] (fun s3 s4 wr => ∃ (k : Nat) (v : Int), k ≤ n ∧ s4 = .int .i64 (k : Int) ∧ s3 = .int .i64 v ∧ -1200 ≤ v ∧ v ≤ 4000 ∧ Hid (heavyL ((l.drop k).map CN.call) v = heavyL (l.map CN.call) 4000) ∧ Hid (Below w.heap.size w wr)) (fun _ s4 _ => n - (intOf s4).toNat)
    case atStart => exact ⟨0, 4000, Nat.zero_le _, rfl, rfl, by omega, by omega, rfl, Below.refl _ _⟩
    case round =>
      obtain ⟨k, v, hk, rfl, rfl, hv1, hv2, hv, hbr⟩ := hrel
      have hzr := hbr.out.size
      by_cases hlt : k < n
      · have hlt1 : (k : Int) < (n : Int) := by omega
        have hkl : k < l.length := by have := HN.out; omega
        have hdrop : (l.drop k).map CN.call = (l[k]).call :: (l.drop (k + 1)).map CN.call := by rw [List.drop_eq_getElem_cons hkl]; rfl
        by_cases hv0 : 0 ≤ v
        · obtain ⟨b, off, rfl, hRb, hq⟩ := HG.out wr hbr.out k hkl
          have hmem : l[k] ∈ l := List.getElem_mem hkl
          have hAt := HH.out.1.attrs _ hmem
          have hPV := HH.out.1.node _ hmem
          have hstep := hv.out
          rw [hdrop] at hstep
          rw [heavyL_cons, if_neg (by omega)] at hstep
          have hbd : -600 ≤ v - ((l[k]).attrs.length : Int) - (((l[k]).s.size / 64 : Nat) : Int) ∨ 200 < (l[k]).attrs.length ∨ 20000 < (l[k]).s.size := by omega
          have HWe : Hid (∀ (W : World) (v2 : Int), Below wr.heap.size wr W → -600 ≤ v2 → v2 ≤ 1000000 → Calls Try.prog 45 #[(l[k]).n.agg, I v2] W (Ret (I ((l[k]).n.node.weigh v2)) W)) := by
            intro W v2 hb h1 h2
            have hzW := hb.size
            exact weigh_any _ R W v2 ((hPV.keepB hbr.out HH.out.2).keepB hb fun b hb1 => by have := HH.out.2 b hb1; omega) (fun b hb1 => by have := HH.out.2 b hb1; omega) h1 h2
          have hbd2 := PNode.weigh_bd (l[k]).n.node
          have q : ∀ q, q < 10 → wr.cell? ⟨b, off + k * 10 + q, none⟩ = (l[k]).cells[q]? := hq
          obtain ⟨aA, aC, hav, ha1, ha2, -⟩ := hAt.form
          have hPV2 := hPV
          clear hq hdrop hAt hPV
          revert hstep hbd HWe hbd2 q hav ha1 ha2 hPV2
          generalize l[k] = C
          intro hstep hbd HWe hbd2 q hav ha1 ha2 hPV2
          obtain ⟨cw, ca, cb, cc, cs, cal, cav, cn⟩ := C
          obtain ⟨kt, kal, kx, d1, d2, d3, d4, d5, d6, kks, rfl⟩ := VN.kid_open hPV2
          dsimp only at hav ha1 ha2 hstep hbd HWe hbd2
          subst hav
          simp only [CN.cells, VN.cells, VN.agg, List.cons_append, List.nil_append] at q HWe
          have q4 := q 4 (by omega)
          have q5 := q 5 (by omega)
          have q6 := q 6 (by omega)
          have q7 := q 7 (by omega)
          have q8 := q 8 (by omega)
          have q9 := q 9 (by omega)
          simp at q4 q5 q6 q7 q8 q9
          simp only [CN.call] at hstep
          have haml : cal.length ≤ maxLen := by omega
          clear q hPV2 hmem hkl
          generalize hndd : (VN.mk kt kal kx (Value.slice d1 d2 d3) (Value.slice d4 d5 d6) kks).node = nd at *
          clear hndd
          by_cases hs : 20000 < cs.size
          · replace hstep : true = heavyL (l.map CN.call) 4000 := by rw [← hstep]; simp [hs]
            have d1 : decide (20000 < (cs.size : Int)) = true := by simp; omega
            have d1' : decide (20000 < cs.size) = true := by simp; omega
            have HSt := Lib.hid hstep
            clear hs hstep hbd hbd2
            go_wp2_with fail
            go_ret
            exact ⟨ret_bool HSt.out, hbr.out⟩
          · have d1 : decide (20000 < (cs.size : Int)) = false := by simp; omega
            have d1' : decide (20000 < cs.size) = false := by simp; omega
            by_cases ha : 200 < cal.length
            · replace hstep : true = heavyL (l.map CN.call) 4000 := by rw [← hstep]; simp [ha]
              have d2 : decide (200 < (cal.length : Int)) = true := by simp; omega
              have d2' : decide (200 < cal.length) = true := by simp; omega
              have HSt := Lib.hid hstep
              clear hs ha hstep hbd hbd2
              generalize cal.length = am at *
              go_wp2_with fail
              go_ret
              exact ⟨ret_bool HSt.out, hbr.out⟩
            · replace hstep : heavyL ((l.drop (k + 1)).map CN.call) (nd.weigh (v - (cal.length : Int) - ((cs.size / 64 : Nat) : Int))) = heavyL (l.map CN.call) 4000 := by rw [← hstep]; simp [hs, ha]
              have d2 : decide (200 < (cal.length : Int)) = false := by simp; omega
              have d2' : decide (200 < cal.length) = false := by simp; omega
              have ha2' : cal.length ≤ 200 := by omega
              have hs2' : cs.size ≤ 20000 := by omega
              generalize cal.length = am at *
              have hv2' : -600 ≤ v - (am : Int) - (cs.size : Int) / 64 ∧ v - (am : Int) - (cs.size : Int) / 64 ≤ 4000 := by omega
              have e2 : v - (am : Int) - ((cs.size / 64 : Nat) : Int) = v - (am : Int) - (cs.size : Int) / 64 := by omega
              rw [e2] at hstep
              have hbd3 := hbd2 (v - (am : Int) - (cs.size : Int) / 64) hv2'.1
              have HWk := Lib.hid (fun (W : World) (hb : Below wr.heap.size wr W) => HWe.out W (v - (am : Int) - (cs.size : Int) / 64) hb (by omega) (by omega))
              have hbd4 : -1200 ≤ nd.weigh (v - (am : Int) - (cs.size : Int) / 64) ∧ nd.weigh (v - (am : Int) - (cs.size : Int) / 64) ≤ 4000 := by omega
              clear hs ha hbd hbd2 hbd3 e2 HWe
              generalize nd.weigh (v - (am : Int) - (cs.size : Int) / 64) = v' at *
              have HSt := Lib.hid hstep
              clear hstep
              go_wp2_with fail
              (refine wp_region_quiet_below (by kernel_rfl) (by kernel_rfl) ?_; (repeat (go_big_quiet_step (exact quietRet (HWk.out _ (below_regrown _ _ _))))); refine wpQuiet_nil ?_; intro w5 hw'; have hb := below_class hw'; clear hw'; have hz_w5 := hb.size; (try simp only [World.size_alloc, World.size_setCell, World.size_drew, size_drewN'] at hz_w5); have hb_w5 : Below wr.heap.size wr w5 := Below.trans (by exact (by repeat (first | exact Below.refl _ _ | assumption | (refine Below.setCell ?_ (by first | (simp; done) | (simp; omega) | omega) _) | (refine Below.alloc ?_ (by first | (simp; done) | (simp; omega) | omega) _) | (refine Below.drew ?_) | (refine Below.drewN' ?_ _)))) (hb.mono (by first | (simp; done) | (simp; omega) | omega)); obtain ⟨hc_w5, hf_w5⟩ := bcell hb_w5; clear hb)
              go_wp2_with fail
              exact ⟨⟨k + 1, v', by omega, by go_num, rfl, by omega, by omega, HSt, hbr.out.trans (hb_w5.mono hzr)⟩, by simp [intOf]; omega⟩
        · have hd : decide (0 ≤ v) = false := by simp; omega
          have hd2 : decide (v < 0) = true := by simp; omega
          have hn : true = heavyL (l.map CN.call) 4000 := by rw [← hv.out, heavyL_neg _ (by omega)]
          have HNn := Lib.hid hn
          clear hn hv0 hdrop hkl
          go_wp2_with fail
          go_ret
          exact ⟨ret_bool HNn.out, hbr.out⟩
      · have hkm : k = n := by omega
        subst hkm
        have hn : decide (v < 0) = heavyL (l.map CN.call) 4000 := by
          rw [← hv.out, List.drop_of_length_le (by have := HN.out; omega)]
          rfl
        have HNn := Lib.hid hn
        clear hn
        go_wp2_with fail
        go_ret
        exact ⟨ret_bool HNn.out, hbr.out⟩
end Go.Proofs.Ytnnjlpkjpbbklaa
