/-
  Arrays of numbers that come in as arguments, opened.
-/
import Derived.Test.YtdgahppgpldnpaaOpen
namespace Go.Proofs.Ytdgahppgpldnpaa
open Go.ChangeShapes Go.WideShapes Go.ChangeAt Go.RowKit Go.Joins

/-- The cells of numbers. -/
def nums (ms : List Int) : Array Value := (ms.map (Value.int .i64)).toArray
section
variable {H : Type} {enc : TypeId × Value → H} {W : World} {base b0 : Nat} {spare : Nat → Bool} {held : Bool}
/-- An array of numbers. -/
theorem open_nums {t e : TypeId} {n : Nat} {v : Value} {d : DataW H} {p : List MemPlace} (ht : Try.prog.underlying t = some (.array n e)) (he : Try.prog.underlying e = some (.int .i64)) (hc : Try.prog.cellsOf e = 1) (hn : Try.prog.cellsOf t = n)
    (hv : Value.okWide Try.prog W .any b0 t v) (h : DataW.Trod enc Try.prog W base spare held t v d p) : ∃ ms : List Int, v = .agg (nums ms) ∧ ms.length = n ∧ ∀ x ∈ ms, I64 x := by
  simp only [Value.okWide, ht] at hv
  obtain ⟨cs, rfl, hsz, _⟩ := hv
  obtain ⟨fuel, hf⟩ := h
  obtain ⟨xs, m, _, _, hlen, _, hi⟩ := DataW.trod_array ht hf
  have key : ∀ i (hi : i < cs.toList.length), ∃ x, cs.toList[i] = .int .i64 x ∧ I64 x := by
    intro i hil
    have hin : i < n := by simp at hil; omega
    have h1 := hi i hin
    rw [hc, Nat.mul_one] at h1
    have h2 : ((Value.agg cs).cells.toList.drop i).take 1 = [cs.toList[i]] := by
      show (cs.toList.drop i).take 1 = _
      rw [List.drop_eq_getElem_cons hil]
      rfl
    rw [h2] at h1
    have h3 : xs[i]? = some (xs[i]'(by omega)) := List.getElem?_eq_getElem (by omega)
    rw [h3] at h1
    obtain ⟨x, h4, _, h5⟩ := DataW.trod_int he h1
    exact ⟨x, by simpa using h4, i64_wf h5⟩
  have build : ∀ l : List Value, (∀ i (hi : i < l.length), ∃ x, l[i] = .int .i64 x ∧ I64 x) → ∃ ms : List Int, l = ms.map (Value.int .i64) ∧ ∀ x ∈ ms, I64 x := by
    intro l
    induction l with
    | nil => intro _; exact ⟨[], rfl, by simp⟩
    | cons a l ih =>
      intro hl
      obtain ⟨x, hx, hx'⟩ := hl 0 (by simp)
      obtain ⟨ms, hms, hall⟩ := ih (fun i hi => by have := hl (i + 1) (by simpa using hi); rw [List.getElem_cons_succ] at this; exact this)
      refine ⟨x :: ms, ?_, ?_⟩
      · rw [hms, List.map_cons]; congr 1
      · intro y hy
        rcases List.mem_cons.1 hy with rfl | hy
        · exact hx'
        · exact hall y hy
  obtain ⟨ms, hms, hall⟩ := build cs.toList key
  have hcs : cs = nums ms := by
    rw [← Array.toArray_toList (xs := cs), hms]; rfl
  refine ⟨ms, by rw [hcs], ?_, hall⟩
  rw [hcs] at hsz
  simpa [hn, nums] using hsz
end
end Go.Proofs.Ytdgahppgpldnpaa
