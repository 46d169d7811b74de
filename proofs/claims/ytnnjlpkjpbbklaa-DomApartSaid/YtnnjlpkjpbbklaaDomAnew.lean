/-
  anew of package dom, Anew of the document's answer: a text, written anew in UTF-8. Conditions: a bound on its length.
-/
import Derived.Test.YtnnjlpkjpbbklaaDomAdd3
import Derived.Laws.IdiomStrings
import Derived.Laws.Cover4
set_option linter.unusedVariables false
set_option linter.unusedSimpArgs false
namespace Go.Proofs.Ytnnjlpkjpbbklaa
open Go.RowKit

def runesOf (s : Bytes) : List Int := (Conv.runesFrom s s.size 0 #[]).toList.map intOf
/-- A text, written anew. -/
def anew (s : Bytes) : Bytes := runesBytes (runesOf s)

theorem runesFrom_ints (s : Bytes) : ∀ (bound i : Nat) (acc : Array Value), (∀ v ∈ acc.toList, v = .int .i32 (intOf v)) → ∀ v ∈ (Conv.runesFrom s bound i acc).toList, v = .int .i32 (intOf v)
  | 0, _, acc, h => by simpa [Conv.runesFrom] using h
  | bound + 1, i, acc, h => by
    unfold Conv.runesFrom
    split
    · refine runesFrom_ints s bound _ _ ?_
      intro v hv
      simp only [Array.toList_push, List.mem_append, List.mem_singleton] at hv
      rcases hv with hv | rfl
      · exact h v hv
      · rfl
    · exact h
theorem runesFrom_map (s : Bytes) : (Conv.runesFrom s s.size 0 #[]).toList = (runesOf s).map (Value.int .i32) := by
  have h := runesFrom_ints s s.size 0 #[] (by simp)
  unfold runesOf
  generalize (Conv.runesFrom s s.size 0 #[]).toList = l at *
  induction l with
  | nil => rfl
  | cons a l ih =>
    simp only [List.map_cons, List.cons.injEq]
    exact ⟨h a (by simp), ih fun v hv => h v (by simp [hv])⟩
theorem runesOf_length (s : Bytes) : (Conv.runesFrom s s.size 0 #[]).size = (runesOf s).length := by simp [runesOf]
theorem runesOf_le (s : Bytes) : (runesOf s).length ≤ s.size := by
  have := size_runesFrom s s.size 0 #[]
  rw [runesOf_length] at this
  simpa using this

theorem anew_step2 (w : World) (s : Bytes) (X : Array Value) (cap : Nat) :
    (convert 174 9 (.slice (some ⟨w.heap.size, 0, none⟩) (runesOf s).length cap)).run Try.prog (w.drew.alloc (.cells (Conv.runesFrom s s.size 0 #[] ++ X) 21)) = .ok (.string (anew s)) (w.drew.alloc (.cells (Conv.runesFrom s s.size 0 #[] ++ X) 21)) := by
  have h := run_convert_runes (P := Try.prog) (w.drew.alloc (.cells (Conv.runesFrom s s.size 0 #[] ++ X) 21)) 174 9 21 ⟨w.heap.size, 0, none⟩ (runesOf s).length cap (runesOf s) (Nat.le_refl _) Try.underlying174 Try.underlying21 Try.underlying9 (fun j hj => by
    have hA : At (w.drew.alloc (.cells (Conv.runesFrom s s.size 0 #[] ++ X) 21)) w.heap.size 21 (Conv.runesFrom s s.size 0 #[] ++ X) := At.fresh _ _ _ rfl
    have e : (⟨w.heap.size, 0, none⟩ : Addr).add j = ⟨w.heap.size, j, none⟩ := by simp [Addr.add]; exact fun h => h.symm
    rw [e, hA.cell j, Array.getElem?_append_left (by rw [runesOf_length]; exact hj)]
    have e2 : (Conv.runesFrom s s.size 0 #[])[j]? = (Conv.runesFrom s s.size 0 #[]).toList[j]? := by simp
    rw [e2, runesFrom_map, List.getElem?_map, List.getElem?_eq_getElem hj]
    simp [List.getD, List.getElem?_eq_getElem hj])
  rw [h, List.take_length]
  rfl

set_option maxHeartbeats 400000 in
theorem anew_any {w : World} (s : Bytes) (hs : s.size ≤ 1000000) : Calls Try.prog 119 #[.string s] w (Ret (.string (anew s)) w) := by
  have h1 := run_runes_of_string (P := Try.prog) w 9 174 21 s Try.underlying9 Try.underlying174 Try.underlying21 (by have := runesOf_le s; rw [runesOf_length]; omega)
  have h2 := anew_step2 w s (Array.replicate (grownCap w (Conv.runesFrom s s.size 0 #[]).size 0 21 - (Conv.runesFrom s s.size 0 #[]).size) (.int .i32 0)) (grownCap w (Conv.runesFrom s s.size 0 #[]).size 0 21)
  rw [runesOf_length, World.alloc_drew] at h1 h2
  generalize anew s = t at *
  generalize (grownCap w (runesOf s).length 0 21) = cap at *
  generalize (Conv.runesFrom s s.size 0 #[] ++ Array.replicate (cap - (runesOf s).length) (.int .i32 0)) = R at *
  generalize (runesOf s).length = n at *
  go_enter Try.func119, Try.ntmps119
  go_wp2_with fail
  go_ret
  exact ⟨rfl, (by repeat (first | exact Below.refl _ _ | assumption | (refine Below.setCell ?_ (by first | (simp; done) | (simp; omega) | omega) _) | (refine Below.alloc ?_ (by first | (simp; done) | (simp; omega) | omega) _) | (refine Below.drew ?_) | (refine Below.drewN' ?_ _)))⟩
end Go.Proofs.Ytnnjlpkjpbbklaa
