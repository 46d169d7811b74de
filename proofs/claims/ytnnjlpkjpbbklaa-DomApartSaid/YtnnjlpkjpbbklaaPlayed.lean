/-
  Played of chapter 8's statements. Conditions: the calls lie in memory, and are not too much.
-/
import Derived.Test.YtnnjlpkjpbbklaaCalls
import Derived.Test.YtnnjlpkjpbbklaaLawSatG
import Derived.Deep.CutBlock
set_option linter.unusedVariables false
set_option linter.unusedSimpArgs false
namespace Go.Proofs.Ytnnjlpkjpbbklaa
open Go.RowKit

theorem tmod_digit (a : Int) : ((a.tmod 10 + 10).tmod 10) = a % 10 := by
  have h1 : a.tmod 10 = a % 10 ∨ a.tmod 10 = a % 10 - 10 := by
    rcases Int.lt_or_le a 0 with h | h
    · have h2 := Int.tmod_eq_emod (a := a) (b := 10)
      split at h2
      · left; omega
      · right; simpa using h2
    · left; exact Int.tmod_eq_emod_of_nonneg h
  have h3 : 0 ≤ a % 10 ∧ a % 10 < 10 := by omega
  rcases h1 with h1 | h1
  · rw [h1, Int.tmod_eq_emod_of_nonneg (by omega)]; omega
  · rw [h1, Int.tmod_eq_emod_of_nonneg (by omega)]; omega

theorem tmod_bd (a : Int) : -9 ≤ a.tmod 10 ∧ a.tmod 10 ≤ 9 := by
  have h := tmod_digit a
  rcases Int.lt_or_le a 0 with h1 | h1
  · have h2 := Int.tmod_eq_emod (a := a) (b := 10)
    have h3 := Int.emod_nonneg a (by decide : (10 : Int) ≠ 0)
    split at h2
    · have h5 : a.tmod 10 = a % 10 := by simpa using h2
      omega
    · rename_i h4
      have h5 : a.tmod 10 = a % 10 - 10 := by simpa using h2
      have h6 : a % 10 ≠ 0 := fun e => h4 (.inr (Int.dvd_of_emod_eq_zero e))
      omega
  · rw [Int.tmod_eq_emod_of_nonneg h1]; omega
theorem tmod_digit2 (a : Int) : (a.tmod 10 + 10) % 10 = a % 10 := by
  have h := tmod_digit a
  rw [Int.tmod_eq_emod_of_nonneg (a := a.tmod 10 + 10) (by have := tmod_bd a; omega)] at h
  exact h

theorem DT.play_succ (f : Bytes → Bytes) (T : DT) (l : List PCall) (k : Nat) (hk : k < l.length) : T.play f (l.take (k + 1)) = (T.play f (l.take k)).play1 f l[k] := by
  unfold DT.play
  rw [List.take_add_one, List.getElem?_eq_getElem hk, List.foldl_append]
  rfl

section
variable {tb : Nat} {w W : World} {T : DT}
/-- From here on, the tree's own blocks are known. -/
theorem Sat.split {S : Nat → Prop} {w0 : World} (h : Sat tb S w0 T w) : ∃ S1 : Nat → Prop, (∀ b, S1 b → b < w.heap.size) ∧ (∀ W, Below w.heap.size w W → Sat tb S1 W T W) ∧ (∀ W T' w', Below w.heap.size w W → Sat tb S1 W T' w' → Sat tb S w0 T' w') ∧ ∀ b, S1 b → S b ∨ w0.heap.size ≤ b := by
  obtain ⟨⟨nv, G, hr, hs⟩, ho⟩ := h.mut_
  refine ⟨fun b => b ∈ repBlocks tb nv G, hr.lt, fun W hb => Sat.start (hr.keep hb) h.wf h.ab, fun W T' w' hb k => ⟨Mut.seq ho hs hb k.mut_, k.wf, k.ab⟩, hs⟩
/-- What lay before the tree lies as it lay. -/
theorem Sat.old {w0 : World} (h : Sat tb (fun _ => False) w0 T W) : Below w0.heap.size w0 W := h.mut_.2.below fun _ _ h => h
theorem Sat.copied {w0 : World} (h : Sat tb (fun _ => False) w0 T W) : Calls Try.prog 35 #[.pointer (some ⟨tb, 0, none⟩)] W fun e w' => e = .returned (.pointer (some ⟨W.heap.size, 0, none⟩)) ∧ Sat W.heap.size (fun _ => False) w0 T w' := by
  refine h.copy.mono ?_
  rintro e w' ⟨he, ⟨nv, G, hr, hs⟩, hb⟩
  have hz := h.size
  exact ⟨he, ⟨⟨nv, G, hr, fun b hb1 => .inr (by have := hs b hb1; omega)⟩, h.mut_.2.trans (Only.of_below (S := fun _ => False) hb) fun i _ hi => hi⟩, h.wf, h.ab⟩
end

set_option maxRecDepth 100000 in
set_option maxHeartbeats 4000000 in
theorem played_ok {w : World} {R : Nat → Prop} {v : Value} {l : List CN} (h : CallsAt w R v l) (hR : ∀ b, R b → b < w.heap.size) (hlt : ∀ c ∈ l, Light c.call) (hn : l.length ≤ 200) {cap dep : Int} (hok : newOk cap dep = true) :
    Calls Try.prog 32 #[I cap, I dep, v] w fun e w' => ∃ tb, e = .returned (.pointer (some ⟨tb, 0, none⟩)) ∧ Sat tb (fun _ => False) w ((DT.new cap dep).play anew (l.map CN.call)) w' := by
  have HNew := Lib.hid (new_sat (w := w) hok)
  obtain ⟨A, vcap, hv, hcap, hmx, -⟩ := h.row.form
  have HG : Hid (∀ (wr : World), Below w.heap.size w wr → ∀ j (hj : j < l.length), ∃ b off, A = some ⟨b, off, none⟩ ∧ R b ∧ (∀ q, q < 10 → wr.cell? ⟨b, off + j * 10 + q, none⟩ = (l[j]).cells[q]?)) := by
    intro wr hb j hj
    obtain ⟨b, off, c', hv', hRb, hc⟩ := (h.keep fun b hb1 => hb.block b (hR b hb1)).get hj
    rw [hv] at hv'
    injection hv' with e1 _ _
    exact ⟨b, off, e1, hRb, hc⟩
  subst hv
  have HH := Lib.hid (And.intro h (And.intro hR hlt))
  clear h hR hlt hok
  obtain ⟨n, hnn⟩ : ∃ n, n = l.length := ⟨_, rfl⟩
  rw [← hnn] at hcap hn ⊢
  have HN := Lib.hid hnn
  clear hnn
  generalize DT.new cap dep = T0 at *
  go_enter Try.func32, Try.ntmps32
  go_wp2_with ((with_reducible refine HNew.out.mono ?_); rintro e w1 ⟨rfl, hs⟩; have K1 := Lib.hid hs; clear hs)
  go_loopw [7, 9, 10] (fun s7 s9 _ wr => ∃ (k tb : Nat), k ≤ n ∧ s9 = .int .i64 (k : Int) ∧ s7 = .pointer (some ⟨tb, 0, none⟩) ∧ Hid (Sat tb (fun _ => False) w (T0.play anew ((l.map CN.call).take k)) wr)) (fun _ s9 _ _ => n - (intOf s9).toNat)
  case atStart => exact ⟨0, w.heap.size, Nat.zero_le _, rfl, rfl, K1.out⟩
  case round =>
    obtain ⟨k, tb, hk, rfl, rfl, hs⟩ := hrel
    have hzr := hs.out.size
    have htl := hs.out.lt
    by_cases hlt : k < n
    · have hlt1 : (k : Int) < (n : Int) := by omega
      have hkl : k < l.length := by have := HN.out; omega
      have hold := hs.out.old
      obtain ⟨b, off, rfl, hRb, q⟩ := HG.out wr hold k hkl
      have hmem : l[k] ∈ l := List.getElem_mem hkl
      have hAt := HH.out.1.attrs _ hmem
      have hPV := HH.out.1.node _ hmem
      have hLi := HH.out.2.2 _ hmem
      have hstep : T0.play anew ((l.map CN.call).take (k + 1)) = (T0.play anew ((l.map CN.call).take k)).play1 anew (l[k]).call := by
        rw [DT.play_succ _ _ _ _ (by simpa using hkl)]; simp
      generalize hTn : T0.play anew ((l.map CN.call).take (k + 1)) = Tn at *
      have HTn := Lib.hid hTn
      clear hTn
      generalize T0.play anew ((l.map CN.call).take k) = Tk at *
      have hR : ∀ b, R b → b < w.heap.size := HH.out.2.1
      revert hAt hPV hLi hstep q
      generalize l[k] = C
      intro q hAt hPV hLi hstep
      obtain ⟨cw, ca, cb, cc, cs, cal, cav, cn⟩ := C
      obtain ⟨l1, l2, l3, l4, l5⟩ := hLi
      simp only [CN.call] at l1 l2 l3 l4 l5 hstep
      dsimp only at hAt hPV
      have HTx : Hid (∀ W, Below wr.heap.size wr W → Calls Try.prog 56 #[.pointer (some ⟨tb, 0, none⟩), .string cs] W fun e w' => e = .returned (.tuple #[I (Tk.text (anew cs)).1.1, I (Tk.text (anew cs)).1.2]) ∧ Sat tb (fun _ => False) w (Tk.text (anew cs)).2 w') := fun W hb => (hs.out.keep hb).text cs (by omega)
      have HIn : Hid (∀ W, Below wr.heap.size wr W → Calls Try.prog 36 #[.pointer (some ⟨tb, 0, none⟩), I ca, I cb, I cc] W fun e w' => e = .returned (I (Tk.insert ca cb cc).1) ∧ Sat tb (fun _ => False) w (Tk.insert ca cb cc).2 w') := fun W hb => (hs.out.keep hb).insert ca cb cc
      have HRe : Hid (∀ W, Below wr.heap.size wr W → Calls Try.prog 37 #[.pointer (some ⟨tb, 0, none⟩), I ca] W fun e w' => e = .returned (I (Tk.remove ca).1) ∧ Sat tb (fun _ => False) w (Tk.remove ca).2 w') := fun W hb => (hs.out.keep hb).remove ca
      have HDr : Hid (∀ W, Below wr.heap.size wr W → Calls Try.prog 40 #[.pointer (some ⟨tb, 0, none⟩), I ca] W fun e w' => e = .returned (I (Tk.drop ca).1) ∧ Sat tb (fun _ => False) w (Tk.drop ca).2 w') := fun W hb => (hs.out.keep hb).drop ca
      obtain ⟨S1, hS1, hS2, hS3, -⟩ := hs.out.split
      have HS1 := Lib.hid hS1
      have HS3 := Lib.hid hS3
      have HSA : Hid (∀ W, Below wr.heap.size wr W → Calls Try.prog 39 #[.pointer (some ⟨tb, 0, none⟩), I ca, cav] W fun e w' => e = .returned (I (Tk.setAttrs ca cal).1) ∧ Sat tb S1 W (Tk.setAttrs ca cal).2 w') := fun W hb => (hS2 W hb).setAttrs ca (m := cal.length) ((hAt.keep fun b hb1 => (hs.out.keep hb).old.block b (hR b hb1)).reads) l2
      have HST : Hid (∀ W W', Sat tb S1 W (Tk.setAttrs ca cal).2 W' → Calls Try.prog 38 #[.pointer (some ⟨tb, 0, none⟩), I ca, .string cs] W' fun e w' => e = .returned (I ((Tk.setAttrs ca cal).2.setText ca (anew cs)).1) ∧ Sat tb S1 W ((Tk.setAttrs ca cal).2.setText ca (anew cs)).2 w') := fun W W' h => h.setText ca cs (by omega)
      have HSG : Hid (∀ W W', Sat tb S1 W ((Tk.setAttrs ca cal).2.setText ca (anew cs)).2 W' → Calls Try.prog 44 #[.pointer (some ⟨tb, 0, none⟩), I ca, I cb] W' fun e w' => e = .returned (I (((Tk.setAttrs ca cal).2.setText ca (anew cs)).2.setTag ca cb).1) ∧ Sat tb S1 W (((Tk.setAttrs ca cal).2.setText ca (anew cs)).2.setTag ca cb).2 w') := fun W W' h => h.setTag ca cb
      clear hS1 hS2 hS3
      have HGr : Hid (∀ W, Below wr.heap.size wr W → Calls Try.prog 46 #[.pointer (some ⟨tb, 0, none⟩), I ca, I cb, cn.agg] W fun e w' => e = .returned (.tuple #[I (Tk.graft anew ca cb cn.node).1.1, I (Tk.graft anew ca cb cn.node).1.2]) ∧ Sat tb (fun _ => False) w (Tk.graft anew ca cb cn.node).2 w') := fun W hb => (hs.out.keep hb).graft ca cb (hPV.keep fun b hb1 => (hs.out.keep hb).old.block b (hR b hb1)) (fun b hb1 => ⟨hR b hb1, fun h => h⟩) l3 (by omega)
      have HCo : Hid (∀ W, Below wr.heap.size wr W → Calls Try.prog 35 #[.pointer (some ⟨tb, 0, none⟩)] W fun e w' => e = .returned (.pointer (some ⟨W.heap.size, 0, none⟩)) ∧ Sat W.heap.size (fun _ => False) w Tk w') := fun W hb => (hs.out.keep hb).copied
      have HEl : Hid (∀ W, Below wr.heap.size wr W → Calls Try.prog 59 #[.pointer (some ⟨tb, 0, none⟩), I ca, cav] W fun e w' => e = .returned (.tuple #[I (Tk.element ca cal).1.1, I (Tk.element ca cal).1.2]) ∧ Sat tb (fun _ => False) w (Tk.element ca cal).2 w') := fun W hb => (hs.out.keep hb).element ca (m := cal.length) ((hAt.keep fun b hb1 => (hs.out.keep hb).old.block b (hR b hb1)).reads) l2
      obtain ⟨aA, aC, hav, ha1, ha2, -⟩ := hAt.form
      obtain ⟨kt, kal, kx, d1, d2, d3, d4, d5, d6, kks, hcn⟩ := VN.kid_open hPV
      clear hPV
      subst hcn
      subst hav
      simp only [CN.cells, VN.cells, VN.agg, List.cons_append, List.nil_append] at q HGr
      have q0 := q 0 (by omega)
      have q1 := q 1 (by omega)
      have q2 := q 2 (by omega)
      have q3 := q 3 (by omega)
      have q4 := q 4 (by omega)
      have q5 := q 5 (by omega)
      have q6 := q 6 (by omega)
      have q7 := q 7 (by omega)
      have q8 := q 8 (by omega)
      have q9 := q 9 (by omega)
      simp at q0 q1 q2 q3 q4 q5 q6 q7 q8 q9
      have HSt := Lib.hid hstep
      have HS := Lib.hid hs.out
      clear q hstep hold hmem hAt l1 l2 l3 l4 l5 hR hRb
      generalize (VN.mk kt kal kx (Value.slice d1 d2 d3) (Value.slice d4 d5 d6) kks).node = nd at *
      generalize cal.length = am at *
      obtain ⟨t1, t2⟩ := tmod_bd cw
      go_upto_block 2 with fail
      first | rw [tmod_digit cw] | rw [tmod_digit2 cw]
      have hdg : 0 ≤ cw % 10 ∧ cw % 10 < 10 := by omega
      have HDG : Hid (cw % 10 = cw % 10) := rfl
      have kW : At (wr.alloc (.cells #[I cw, I ca, I cb, I cc, .string cs, .slice aA am aC, I kt, .slice d1 d2 d3, .string kx, .slice d4 d5 d6] 46)) wr.heap.size 46 #[I cw, I ca, I cb, I cc, .string cs, .slice aA am aC, I kt, .slice d1 d2 d3, .string kx, .slice d4 d5 d6] := At.fresh _ _ _ rfl
      have hbW : Below wr.heap.size wr (wr.alloc (.cells #[I cw, I ca, I cb, I cc, .string cs, .slice aA am aC, I kt, .slice d1 d2 d3, .string kx, .slice d4 d5 d6] 46)) := (Below.refl _ _).alloc (Nat.le_refl _) _
      generalize (wr.alloc (.cells #[I cw, I ca, I cb, I cc, .string cs, .slice aA am aC, I kt, .slice d1 d2 d3, .string kx, .slice d4 d5 d6] 46)) = W at kW hbW ⊢
      have kWc := kW.cell
      have kWl := kW.lt
      have HkW := Lib.hid kW
      have HBW := Lib.hid hbW
      clear kW hbW
      have hD : cw % 10 = 0 ∨ cw % 10 = 1 ∨ cw % 10 = 2 ∨ cw % 10 = 3 ∨ cw % 10 = 4 ∨ cw % 10 = 5 ∨ cw % 10 = 6 ∨ cw % 10 = 7 ∨ cw % 10 = 8 ∨ cw % 10 = 9 := by omega
      have HP1 : Hid (Tk.play1 anew ⟨cw, ca, cb, cc, cs, cal, nd⟩ = if cw % 10 = 2 then (Tk.text (anew cs)).2 else if cw % 10 = 3 ∨ cw % 10 = 4 then (Tk.insert ca cb cc).2 else if cw % 10 = 5 then (Tk.remove ca).2 else if cw % 10 = 6 then (Tk.drop ca).2 else if cw % 10 = 7 then (((Tk.setAttrs ca cal).2.setText ca (anew cs)).2.setTag ca cb).2 else if cw % 10 = 8 then (Tk.graft anew ca cb nd).2 else if cw % 10 = 9 then Tk else (Tk.element ca cal).2) := rfl
      clear HDG hdg
      generalize cw % 10 = dg at *
      have hfin : Hid (∀ (tb' : Nat) (W' : World), Sat tb' (fun _ => False) w (Tk.play1 anew ⟨cw, ca, cb, cc, cs, cal, nd⟩) W' → Sat tb' (fun _ => False) w (T0.play anew ((l.map CN.call).take (k + 1))) W') := fun tb' W' h => by rw [HTn.out, HSt.out]; exact h
      rcases hD with rfl | rfl | rfl | rfl | rfl | rfl | rfl | rfl | rfl | rfl
      all_goals
        simp only [Int.reduceEq, if_true, if_false, or_false, or_true, false_or, true_or] at HP1
        go_wp2_with (first
          | ((with_reducible refine (HTx.out _ HBW.out).mono ?_); rintro e w6 ⟨rfl, hs6⟩; have K6 := Lib.hid hs6; clear hs6)
          | ((with_reducible refine (HIn.out _ HBW.out).mono ?_); rintro e w6 ⟨rfl, hs6⟩; have K6 := Lib.hid hs6; clear hs6)
          | ((with_reducible refine (HRe.out _ HBW.out).mono ?_); rintro e w6 ⟨rfl, hs6⟩; have K6 := Lib.hid hs6; clear hs6)
          | ((with_reducible refine (HDr.out _ HBW.out).mono ?_); rintro e w6 ⟨rfl, hs6⟩; have K6 := Lib.hid hs6; clear hs6)
          | ((with_reducible refine (HGr.out _ HBW.out).mono ?_); rintro e w6 ⟨rfl, hs6⟩; have K6 := Lib.hid hs6; clear hs6)
          | ((with_reducible refine (HCo.out _ HBW.out).mono ?_); rintro e w6 ⟨rfl, hs6⟩; have K6 := Lib.hid hs6; clear hs6)
          | ((with_reducible refine (HEl.out _ HBW.out).mono ?_); rintro e w6 ⟨rfl, hs6⟩; have K6 := Lib.hid hs6; clear hs6)
          | ((with_reducible refine (HSA.out _ HBW.out).mono ?_); rintro e w7 ⟨rfl, hs7⟩; have K7 := Lib.hid hs7; have kW7 : At w7 wr.heap.size 46 #[I cw, I ca, I cb, I cc, .string cs, .slice aA am aC, I kt, .slice d1 d2 d3, .string kx, .slice d4 d5 d6] := (hs7.mut_.2.block _ HkW.out.lt (fun hx => by have := HS1.out _ hx; omega)).trans HkW.out; have kW7c := kW7.cell; clear hs7 kW7)
          | ((with_reducible refine (HST.out _ _ K7.out).mono ?_); rintro e w8 ⟨rfl, hs8⟩; have K8 := Lib.hid hs8; have kW8 : At w8 wr.heap.size 46 #[I cw, I ca, I cb, I cc, .string cs, .slice aA am aC, I kt, .slice d1 d2 d3, .string kx, .slice d4 d5 d6] := (hs8.mut_.2.block _ HkW.out.lt (fun hx => by have := HS1.out _ hx; omega)).trans HkW.out; have kW8c := kW8.cell; clear hs8 kW8)
          | ((with_reducible refine (HSG.out _ _ K8.out).mono ?_); rintro e w6 ⟨rfl, hs6⟩; have K6 := Lib.hid (HS3.out _ _ _ HBW.out hs6); clear hs6))
        exact ⟨⟨k + 1, _, by omega, by go_num, rfl, hfin.out _ _ (by rw [HP1.out]; exact K6.out)⟩, by simp [intOf]; omega⟩
    · have hkn : k = n := by omega
      subst hkn
      have e1 : (l.map CN.call).take k = l.map CN.call := List.take_of_length_le (by rw [List.length_map]; have := HN.out; omega)
      have h1 := hs.out
      rw [e1] at h1
      have H1 := Lib.hid h1
      clear h1 e1
      go_wp2_with fail
      go_ret
      exact ⟨tb, rfl, H1.out⟩

set_option maxHeartbeats 1000000 in
theorem played_no {w : World} {v : Value} {cap dep : Int} (hok : newOk cap dep = false) :
    Calls Try.prog 32 #[I cap, I dep, v] w (Ret (.pointer none) w) := by
  have HNew := Lib.hid (fun (W : World) => new_bad (w := W) hok)
  clear hok
  go_enter Try.func32, Try.ntmps32
  go_wp2_with ((with_reducible refine (HNew.out _).mono ?_); rintro e w1 ⟨rfl, hb⟩; have hz_w1 := hb.size; (try simp only [World.size_alloc, World.size_setCell, World.size_drew, size_drewN'] at hz_w1); have hb_w1 : Below w.heap.size w w1 := Below.trans (by exact (by repeat (first | exact Below.refl _ _ | assumption | (refine Below.setCell ?_ (by first | (simp; done) | (simp; omega) | omega) _) | (refine Below.alloc ?_ (by first | (simp; done) | (simp; omega) | omega) _) | (refine Below.drew ?_) | (refine Below.drewN' ?_ _)))) (hb.mono (by first | (simp; done) | (simp; omega) | omega)); obtain ⟨hc_w1, hf_w1⟩ := bcell hb_w1; clear hb)
  go_ret
  exact ⟨rfl, (by repeat (first | exact Below.refl _ _ | assumption | (refine Below.setCell ?_ (by first | (simp; done) | (simp; omega) | omega) _) | (refine Below.alloc ?_ (by first | (simp; done) | (simp; omega) | omega) _) | (refine Below.drew ?_) | (refine Below.drewN' ?_ _)))⟩
end Go.Proofs.Ytnnjlpkjpbbklaa
