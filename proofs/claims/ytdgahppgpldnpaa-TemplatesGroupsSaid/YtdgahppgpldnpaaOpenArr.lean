/-
  Arrays of arrays of numbers, and of strings, that come in as arguments, opened.
-/
import Derived.Test.YtdgahppgpldnpaaNumsGen
namespace Go.Proofs.Ytdgahppgpldnpaa
open Go.ChangeShapes Go.WideShapes Go.ChangeAt Go.RowKit Go.Joins

section
variable {H : Type} {enc : TypeId × Value → H} {W : World} {base b0 : Nat} {spare : Nat → Bool} {held : Bool}
/-- An array, element by element. -/
theorem arr_trod {t e : TypeId} {n c fuel : Nat} {cs : List Value} {x : DataW H × List MemPlace} (ht : Try.prog.underlying t = some (.array n e)) (hc : Try.prog.cellsOf e = c) (h : DataW.trod enc Try.prog W base spare held fuel t cs = some x) :
    ∀ i, i < n → ∃ m y, DataW.trod enc Try.prog W base spare held m e ((cs.drop (i * c)).take c) = some y := by
  obtain ⟨xs, m, _, _, hlen, _, hi⟩ := DataW.trod_array ht h
  intro i hin
  have h1 := hi i hin
  rw [hc] at h1
  have h3 : xs[i]? = some (xs[i]'(by omega)) := List.getElem?_eq_getElem (by omega)
  rw [h3] at h1
  exact ⟨m, _, h1⟩
theorem nums_of (l : List Value) (hl : ∀ i (hi : i < l.length), ∃ x, l[i] = .int .i64 x ∧ I64 x) : ∃ ms : List Int, l = ms.map (Value.int .i64) ∧ ∀ x ∈ ms, I64 x := by
  induction l with
  | nil => exact ⟨[], rfl, by simp⟩
  | cons a l ih =>
    obtain ⟨x, hx, hx'⟩ := hl 0 (by simp)
    obtain ⟨ms, hms, hall⟩ := ih (fun i hi => by have := hl (i + 1) (by simpa using hi); rw [List.getElem_cons_succ] at this; exact this)
    refine ⟨x :: ms, ?_, ?_⟩
    · rw [hms, List.map_cons]; congr 1
    · intro y hy
      rcases List.mem_cons.1 hy with rfl | hy
      · exact hx'
      · exact hall y hy
/-- Ten pairs of numbers. -/
theorem open_spans {v : Value} {d : DataW H} {p : List MemPlace} (hv : Value.okWide Try.prog W .any b0 23 v) (h : DataW.Trod enc Try.prog W base spare held 23 v d p) :
    ∃ ms : List Int, v = .agg (nums ms) ∧ ms.length = 20 ∧ ∀ x ∈ ms, I64 x := by
  simp only [Value.okWide, Try.underlying23] at hv
  obtain ⟨cs, rfl, hsz, _⟩ := hv
  rw [show Try.prog.cellsOf 23 = 20 by kernel_rfl] at hsz
  obtain ⟨fuel, hf⟩ := h
  have ho := arr_trod Try.underlying23 (show Try.prog.cellsOf 22 = 2 by kernel_rfl) hf
  have key : ∀ i (hi : i < cs.toList.length), ∃ x, cs.toList[i] = .int .i64 x ∧ I64 x := by
    intro q hq
    have hq2 : q < 20 := by simp at hq; omega
    obtain ⟨m, y, hy⟩ := ho (q / 2) (by omega)
    obtain ⟨m2, y2, hy2⟩ := arr_trod Try.underlying22 (show Try.prog.cellsOf 3 = 1 by kernel_rfl) hy (q % 2) (by omega)
    have h2 : ((((Value.agg cs).cells.toList.drop (q / 2 * 2)).take 2).drop (q % 2 * 1)).take 1 = [cs.toList[q]] := by
      show (((cs.toList.drop (q / 2 * 2)).take 2).drop (q % 2 * 1)).take 1 = _
      rw [List.drop_take, List.drop_drop, Nat.mul_one, List.take_take, show q / 2 * 2 + q % 2 = q by omega, show min 1 (2 - q % 2) = 1 by omega, List.drop_eq_getElem_cons hq]
      rfl
    rw [h2] at hy2
    obtain ⟨x, h4, _, h5⟩ := DataW.trod_int Try.underlying3 hy2
    exact ⟨x, by simpa using h4, i64_wf h5⟩
  obtain ⟨ms, hms, hall⟩ := nums_of cs.toList key
  have hcs : cs = nums ms := by rw [← Array.toArray_toList (xs := cs), hms]; rfl
  refine ⟨ms, by rw [hcs], ?_, hall⟩
  rw [hcs] at hsz
  simpa [nums] using hsz
end
end Go.Proofs.Ytdgahppgpldnpaa
