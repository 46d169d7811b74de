/-
  Package dom over a nil tree. Conditions: none.
-/
import Derived.Test.YtnnjlpkjpbbklaaLaw08Awake
set_option linter.unusedVariables false
set_option linter.unusedSimpArgs false
namespace Go.Proofs.Ytnnjlpkjpbbklaa
open Go.RowKit

theorem nil_get {w : World} (id : Int) : Calls Try.prog 112 #[.pointer none, I id] w fun e w' => e = .returned (.pointer none) ∧ w = w' := by
  go_enter Try.func112, Try.ntmps112
  go_wp2_with fail
  go_ret
  exact ⟨rfl, rfl⟩

set_option maxRecDepth 100000 in
theorem nil_has {w : World} (id : Int) : Calls Try.prog 42 #[.pointer none, I id] w (Ret (.bool false) w) := by
  go_enter Try.func42, Try.ntmps42
  go_wp2_with (first | ((with_reducible refine (nil_get _).mono ?_); rintro e w' ⟨rfl, rfl⟩))
  go_ret
  exact ⟨rfl, (by repeat (first | exact Below.refl _ _ | assumption | (refine Below.setCell ?_ (by first | (simp; done) | (simp; omega) | omega) _) | (refine Below.alloc ?_ (by first | (simp; done) | (simp; omega) | omega) _) | (refine Below.drew ?_) | (refine Below.drewN' ?_ _)))⟩
set_option maxRecDepth 100000 in
theorem nil_tag {w : World} (id : Int) : Calls Try.prog 61 #[.pointer none, I id] w (Ret (I (-1)) w) := by
  go_enter Try.func61, Try.ntmps61
  go_wp2_with (first | ((with_reducible refine (nil_get _).mono ?_); rintro e w' ⟨rfl, rfl⟩))
  go_ret
  exact ⟨rfl, (by repeat (first | exact Below.refl _ _ | assumption | (refine Below.setCell ?_ (by first | (simp; done) | (simp; omega) | omega) _) | (refine Below.alloc ?_ (by first | (simp; done) | (simp; omega) | omega) _) | (refine Below.drew ?_) | (refine Below.drewN' ?_ _)))⟩
set_option maxRecDepth 100000 in
theorem nil_attrs {w : World} (id : Int) : Calls Try.prog 62 #[.pointer none, I id] w (Ret (.slice none 0 0) w) := by
  go_enter Try.func62, Try.ntmps62
  go_wp2_with (first | ((with_reducible refine (nil_get _).mono ?_); rintro e w' ⟨rfl, rfl⟩))
  go_ret
  exact ⟨rfl, (by repeat (first | exact Below.refl _ _ | assumption | (refine Below.setCell ?_ (by first | (simp; done) | (simp; omega) | omega) _) | (refine Below.alloc ?_ (by first | (simp; done) | (simp; omega) | omega) _) | (refine Below.drew ?_) | (refine Below.drewN' ?_ _)))⟩
set_option maxRecDepth 100000 in
theorem nil_told {w : World} (id : Int) : Calls Try.prog 63 #[.pointer none, I id] w (Ret (.string ⟨#[]⟩) w) := by
  go_enter Try.func63, Try.ntmps63
  go_wp2_with (first | ((with_reducible refine (nil_get _).mono ?_); rintro e w' ⟨rfl, rfl⟩))
  go_ret
  exact ⟨rfl, (by repeat (first | exact Below.refl _ _ | assumption | (refine Below.setCell ?_ (by first | (simp; done) | (simp; omega) | omega) _) | (refine Below.alloc ?_ (by first | (simp; done) | (simp; omega) | omega) _) | (refine Below.drew ?_) | (refine Below.drewN' ?_ _)))⟩
set_option maxRecDepth 100000 in
theorem nil_kids {w : World} (id : Int) : Calls Try.prog 64 #[.pointer none, I id] w (Ret (.slice none 0 0) w) := by
  go_enter Try.func64, Try.ntmps64
  go_wp2_with (first | ((with_reducible refine (nil_get _).mono ?_); rintro e w' ⟨rfl, rfl⟩))
  go_ret
  exact ⟨rfl, (by repeat (first | exact Below.refl _ _ | assumption | (refine Below.setCell ?_ (by first | (simp; done) | (simp; omega) | omega) _) | (refine Below.alloc ?_ (by first | (simp; done) | (simp; omega) | omega) _) | (refine Below.drew ?_) | (refine Below.drewN' ?_ _)))⟩
set_option maxRecDepth 100000 in
theorem nil_parent {w : World} (id : Int) : Calls Try.prog 49 #[.pointer none, I id] w (Ret (I (-1)) w) := by
  go_enter Try.func49, Try.ntmps49
  go_wp2_with (first | ((with_reducible refine (nil_get _).mono ?_); rintro e w' ⟨rfl, rfl⟩))
  go_ret
  exact ⟨rfl, (by repeat (first | exact Below.refl _ _ | assumption | (refine Below.setCell ?_ (by first | (simp; done) | (simp; omega) | omega) _) | (refine Below.alloc ?_ (by first | (simp; done) | (simp; omega) | omega) _) | (refine Below.drew ?_) | (refine Below.drewN' ?_ _)))⟩
set_option maxRecDepth 100000 in
theorem nil_depth {w : World} (id : Int) : Calls Try.prog 51 #[.pointer none, I id] w (Ret (I (-1)) w) := by
  go_enter Try.func51, Try.ntmps51
  go_wp2_with (first | ((with_reducible refine (nil_get _).mono ?_); rintro e w' ⟨rfl, rfl⟩))
  go_ret
  exact ⟨rfl, (by repeat (first | exact Below.refl _ _ | assumption | (refine Below.setCell ?_ (by first | (simp; done) | (simp; omega) | omega) _) | (refine Below.alloc ?_ (by first | (simp; done) | (simp; omega) | omega) _) | (refine Below.drew ?_) | (refine Below.drewN' ?_ _)))⟩
set_option maxRecDepth 100000 in
theorem nil_height {w : World} (id : Int) : Calls Try.prog 65 #[.pointer none, I id] w (Ret (I (-1)) w) := by
  go_enter Try.func65, Try.ntmps65
  go_wp2_with (first | ((with_reducible refine (nil_get _).mono ?_); rintro e w' ⟨rfl, rfl⟩))
  go_ret
  exact ⟨rfl, (by repeat (first | exact Below.refl _ _ | assumption | (refine Below.setCell ?_ (by first | (simp; done) | (simp; omega) | omega) _) | (refine Below.alloc ?_ (by first | (simp; done) | (simp; omega) | omega) _) | (refine Below.drew ?_) | (refine Below.drewN' ?_ _)))⟩
set_option maxRecDepth 100000 in
theorem nil_live {w : World} (id : Int) : Calls Try.prog 43 #[.pointer none, I id] w (Ret (.bool false) w) := by
  go_enter Try.func43, Try.ntmps43
  go_wp2_with (first | ((with_reducible refine (nil_get _).mono ?_); rintro e w' ⟨rfl, rfl⟩))
  go_ret
  exact ⟨rfl, (by repeat (first | exact Below.refl _ _ | assumption | (refine Below.setCell ?_ (by first | (simp; done) | (simp; omega) | omega) _) | (refine Below.alloc ?_ (by first | (simp; done) | (simp; omega) | omega) _) | (refine Below.drew ?_) | (refine Below.drewN' ?_ _)))⟩
set_option maxRecDepth 100000 in
theorem nil_count {w : World}  : Calls Try.prog 34 #[.pointer none] w (Ret (I 0) w) := by
  go_enter Try.func34, Try.ntmps34
  go_wp2_with fail
  go_ret
  exact ⟨rfl, (by repeat (first | exact Below.refl _ _ | assumption | (refine Below.setCell ?_ (by first | (simp; done) | (simp; omega) | omega) _) | (refine Below.alloc ?_ (by first | (simp; done) | (simp; omega) | omega) _) | (refine Below.drew ?_) | (refine Below.drewN' ?_ _)))⟩
set_option maxRecDepth 100000 in
theorem nil_room {w : World}  : Calls Try.prog 60 #[.pointer none] w (Ret (.tuple #[I 0, I 0]) w) := by
  go_enter Try.func60, Try.ntmps60
  go_wp2_with fail
  go_ret2
  exact ⟨rfl, (by repeat (first | exact Below.refl _ _ | assumption | (refine Below.setCell ?_ (by first | (simp; done) | (simp; omega) | omega) _) | (refine Below.alloc ?_ (by first | (simp; done) | (simp; omega) | omega) _) | (refine Below.drew ?_) | (refine Below.drewN' ?_ _)))⟩
set_option maxRecDepth 100000 in
theorem nil_insert {w : World} (a b c : Int) : Calls Try.prog 36 #[.pointer none, I a, I b, I c] w (Ret (I 1) w) := by
  go_enter Try.func36, Try.ntmps36
  go_wp2_with fail
  go_ret
  exact ⟨rfl, (by repeat (first | exact Below.refl _ _ | assumption | (refine Below.setCell ?_ (by first | (simp; done) | (simp; omega) | omega) _) | (refine Below.alloc ?_ (by first | (simp; done) | (simp; omega) | omega) _) | (refine Below.drew ?_) | (refine Below.drewN' ?_ _)))⟩
set_option maxRecDepth 100000 in
theorem nil_remove {w : World} (a : Int) : Calls Try.prog 37 #[.pointer none, I a] w (Ret (I 1) w) := by
  go_enter Try.func37, Try.ntmps37
  go_wp2_with (first | ((with_reducible refine (nil_get _).mono ?_); rintro e w' ⟨rfl, rfl⟩))
  go_ret
  exact ⟨rfl, (by repeat (first | exact Below.refl _ _ | assumption | (refine Below.setCell ?_ (by first | (simp; done) | (simp; omega) | omega) _) | (refine Below.alloc ?_ (by first | (simp; done) | (simp; omega) | omega) _) | (refine Below.drew ?_) | (refine Below.drewN' ?_ _)))⟩
set_option maxRecDepth 100000 in
theorem nil_drop {w : World} (a : Int) : Calls Try.prog 40 #[.pointer none, I a] w (Ret (I 1) w) := by
  go_enter Try.func40, Try.ntmps40
  go_wp2_with (first | ((with_reducible refine (nil_get _).mono ?_); rintro e w' ⟨rfl, rfl⟩))
  go_ret
  exact ⟨rfl, (by repeat (first | exact Below.refl _ _ | assumption | (refine Below.setCell ?_ (by first | (simp; done) | (simp; omega) | omega) _) | (refine Below.alloc ?_ (by first | (simp; done) | (simp; omega) | omega) _) | (refine Below.drew ?_) | (refine Below.drewN' ?_ _)))⟩
set_option maxRecDepth 100000 in
theorem nil_setTag {w : World} (a b : Int) : Calls Try.prog 44 #[.pointer none, I a, I b] w (Ret (I 1) w) := by
  go_enter Try.func44, Try.ntmps44
  go_wp2_with (first | ((with_reducible refine (nil_get _).mono ?_); rintro e w' ⟨rfl, rfl⟩))
  go_ret
  exact ⟨rfl, (by repeat (first | exact Below.refl _ _ | assumption | (refine Below.setCell ?_ (by first | (simp; done) | (simp; omega) | omega) _) | (refine Below.alloc ?_ (by first | (simp; done) | (simp; omega) | omega) _) | (refine Below.drew ?_) | (refine Below.drewN' ?_ _)))⟩
set_option maxRecDepth 100000 in
theorem nil_setAttrs {w : World} (a : Int) (A : Option Addr) (n c : Nat) : Calls Try.prog 39 #[.pointer none, I a, .slice A n c] w (Ret (I 1) w) := by
  go_enter Try.func39, Try.ntmps39
  go_wp2_with (first | ((with_reducible refine (nil_get _).mono ?_); rintro e w' ⟨rfl, rfl⟩))
  go_ret
  exact ⟨rfl, (by repeat (first | exact Below.refl _ _ | assumption | (refine Below.setCell ?_ (by first | (simp; done) | (simp; omega) | omega) _) | (refine Below.alloc ?_ (by first | (simp; done) | (simp; omega) | omega) _) | (refine Below.drew ?_) | (refine Below.drewN' ?_ _)))⟩
set_option maxRecDepth 100000 in
theorem nil_element {w : World} (a : Int) (A : Option Addr) (n c : Nat) : Calls Try.prog 59 #[.pointer none, I a, .slice A n c] w (Ret (.tuple #[I 0, I 1]) w) := by
  go_enter Try.func59, Try.ntmps59
  go_wp2_with fail
  go_ret2
  exact ⟨rfl, (by repeat (first | exact Below.refl _ _ | assumption | (refine Below.setCell ?_ (by first | (simp; done) | (simp; omega) | omega) _) | (refine Below.alloc ?_ (by first | (simp; done) | (simp; omega) | omega) _) | (refine Below.drew ?_) | (refine Below.drewN' ?_ _)))⟩
set_option maxRecDepth 100000 in
theorem nil_text {w : World} (s : Bytes) (hs : s.size ≤ 1000000) : Calls Try.prog 56 #[.pointer none, .string s] w (Ret (.tuple #[I 0, I 1]) w) := by
  have HA := Lib.hid (fun (W : World) => anew_any (w := W) s hs)
  go_enter Try.func56, Try.ntmps56
  go_wp2_with (first | ((with_reducible refine (HA.out _).mono ?_); rintro e w1 ⟨rfl, hb⟩; have hz_w1 := hb.size; (try simp only [World.size_alloc, World.size_setCell, World.size_drew, size_drewN'] at hz_w1); have hb_w1 : Below w.heap.size w w1 := Below.trans (by exact (by repeat (first | exact Below.refl _ _ | assumption | (refine Below.setCell ?_ (by first | (simp; done) | (simp; omega) | omega) _) | (refine Below.alloc ?_ (by first | (simp; done) | (simp; omega) | omega) _) | (refine Below.drew ?_) | (refine Below.drewN' ?_ _)))) (hb.mono (by first | (simp; done) | (simp; omega) | omega)); obtain ⟨hc_w1, hf_w1⟩ := bcell hb_w1; clear hb))
  go_ret2
  exact ⟨rfl, (by repeat (first | exact Below.refl _ _ | assumption | (refine Below.setCell ?_ (by first | (simp; done) | (simp; omega) | omega) _) | (refine Below.alloc ?_ (by first | (simp; done) | (simp; omega) | omega) _) | (refine Below.drew ?_) | (refine Below.drewN' ?_ _)))⟩
set_option maxRecDepth 100000 in
theorem nil_setText {w : World} (a : Int) (s : Bytes) (hs : s.size ≤ 1000000) : Calls Try.prog 38 #[.pointer none, I a, .string s] w (Ret (I 1) w) := by
  have HA := Lib.hid (fun (W : World) => anew_any (w := W) s hs)
  go_enter Try.func38, Try.ntmps38
  go_wp2_with (first | ((with_reducible refine (nil_get _).mono ?_); rintro e w' ⟨rfl, rfl⟩) | ((with_reducible refine (HA.out _).mono ?_); rintro e w1 ⟨rfl, hb⟩; have hz_w1 := hb.size; (try simp only [World.size_alloc, World.size_setCell, World.size_drew, size_drewN'] at hz_w1); have hb_w1 : Below w.heap.size w w1 := Below.trans (by exact (by repeat (first | exact Below.refl _ _ | assumption | (refine Below.setCell ?_ (by first | (simp; done) | (simp; omega) | omega) _) | (refine Below.alloc ?_ (by first | (simp; done) | (simp; omega) | omega) _) | (refine Below.drew ?_) | (refine Below.drewN' ?_ _)))) (hb.mono (by first | (simp; done) | (simp; omega) | omega)); obtain ⟨hc_w1, hf_w1⟩ := bcell hb_w1; clear hb))
  go_ret
  exact ⟨rfl, (by repeat (first | exact Below.refl _ _ | assumption | (refine Below.setCell ?_ (by first | (simp; done) | (simp; omega) | omega) _) | (refine Below.alloc ?_ (by first | (simp; done) | (simp; omega) | omega) _) | (refine Below.drew ?_) | (refine Below.drewN' ?_ _)))⟩
set_option maxRecDepth 100000 in
theorem nil_graft {w : World} (a b : Int) (t : Int) (A B : Option Addr) (n c m d : Nat) (s : Bytes) : Calls Try.prog 46 #[.pointer none, I a, I b, .agg #[I t, .slice A n c, .string s, .slice B m d]] w (Ret (.tuple #[I 0, I 1]) w) := by
  go_enter Try.func46, Try.ntmps46
  go_wp2_with (first | ((with_reducible refine (nil_get _).mono ?_); rintro e w' ⟨rfl, rfl⟩))
  go_ret2
  exact ⟨rfl, (by repeat (first | exact Below.refl _ _ | assumption | (refine Below.setCell ?_ (by first | (simp; done) | (simp; omega) | omega) _) | (refine Below.alloc ?_ (by first | (simp; done) | (simp; omega) | omega) _) | (refine Below.drew ?_) | (refine Below.drewN' ?_ _)))⟩
set_option maxRecDepth 100000 in
theorem nil_copy {w : World}  : Calls Try.prog 35 #[.pointer none] w (Ret (.pointer none) w) := by
  go_enter Try.func35, Try.ntmps35
  go_wp2_with fail
  go_ret
  exact ⟨rfl, (by repeat (first | exact Below.refl _ _ | assumption | (refine Below.setCell ?_ (by first | (simp; done) | (simp; omega) | omega) _) | (refine Below.alloc ?_ (by first | (simp; done) | (simp; omega) | omega) _) | (refine Below.drew ?_) | (refine Below.drewN' ?_ _)))⟩
theorem nil_index {w : World} (id : Int) : Calls Try.prog 50 #[.pointer none, I id] w (Ret (I (-1)) w) := by
  go_enter Try.func50, Try.ntmps50
  go_wp2_with (first | ((with_reducible refine ((nil_parent _)).mono ?_); rintro e w1 ⟨rfl, hb⟩; have hz_w1 := hb.size; (try simp only [World.size_alloc, World.size_setCell, World.size_drew, size_drewN'] at hz_w1); have hb_w1 : Below w.heap.size w w1 := Below.trans (by exact (by repeat (first | exact Below.refl _ _ | assumption | (refine Below.setCell ?_ (by first | (simp; done) | (simp; omega) | omega) _) | (refine Below.alloc ?_ (by first | (simp; done) | (simp; omega) | omega) _) | (refine Below.drew ?_) | (refine Below.drewN' ?_ _)))) (hb.mono (by first | (simp; done) | (simp; omega) | omega)); obtain ⟨hc_w1, hf_w1⟩ := bcell hb_w1; clear hb) | ((with_reducible refine (nil_get _).mono ?_); rintro e w' ⟨rfl, rfl⟩))
  go_ret
  exact ⟨rfl, (by repeat (first | exact Below.refl _ _ | assumption | (refine Below.setCell ?_ (by first | (simp; done) | (simp; omega) | omega) _) | (refine Below.alloc ?_ (by first | (simp; done) | (simp; omega) | omega) _) | (refine Below.drew ?_) | (refine Below.drewN' ?_ _)))⟩
theorem nil_plain {w : World} (id : Int) : Calls Try.prog 33 #[.pointer none, I id] w (PlainRet (.mk 0 [] ByteArray.empty []) w) := by
  go_enter Try.func33, Try.ntmps33
  go_wp2_with ((with_reducible refine (nil_get _).mono ?_); rintro e w' ⟨rfl, rfl⟩)
  have kF : At (w.alloc (.cells #[I 0, .slice none 0 0, .string ⟨#[]⟩, .slice none 0 0] 41)) w.heap.size 41 #[I 0, .slice none 0 0, .string ⟨#[]⟩, .slice none 0 0] := At.fresh _ _ _ rfl
  have kFc := kF.cell
  exact bodyPost_ret (v := .agg #[I 0, .slice none 0 0, .string ⟨#[]⟩, .slice none 0 0]) (by simp [results, Try.results33, go_sem, kFc]) rfl ⟨.mk 0 [] ByteArray.empty (.slice none 0 0) (.slice none 0 0) [], rfl, rfl, .mk (RowQ.nil _ _ _) (RowQ.nil _ _ _) (fun k hk => by cases hk), (by repeat (first | exact Below.refl _ _ | assumption | (refine Below.setCell ?_ (by first | (simp; done) | (simp; omega) | omega) _) | (refine Below.alloc ?_ (by first | (simp; done) | (simp; omega) | omega) _) | (refine Below.drew ?_) | (refine Below.drewN' ?_ _)))⟩
end Go.Proofs.Ytnnjlpkjpbbklaa
