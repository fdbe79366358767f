/-
  Two numbers, and two strings, in an array that comes in as an argument, opened.
-/
import Derived.Test.YtdgahppgpldnpaaOpenArr
namespace Go.Proofs.Ytdgahppgpldnpaa
open Go.ChangeShapes Go.WideShapes Go.ChangeAt Go.RowKit Go.Joins

section
variable {H : Type} {enc : TypeId × Value → H} {W : World} {base b0 : Nat} {spare : Nat → Bool} {held : Bool}
theorem open_pair {v : Value} {d : DataW H} {p : List MemPlace} (hv : Value.okWide Try.prog W .any b0 22 v) (h : DataW.Trod enc Try.prog W base spare held 22 v d p) :
    ∃ a0 a1 : Int, v = .agg #[.int .i64 a0, .int .i64 a1] ∧ I64 a0 ∧ I64 a1 := by
  obtain ⟨ms, rfl, hl, hi⟩ := open_nums (n := 2) Try.underlying22 Try.underlying3 (by kernel_rfl) (by kernel_rfl) hv h
  match ms, hl with
  | [a, b], _ => exact ⟨a, b, rfl, hi a (by simp), hi b (by simp)⟩
theorem open_texts {v : Value} {d : DataW H} {p : List MemPlace} (hv : Value.okWide Try.prog W .any b0 40 v) (h : DataW.Trod enc Try.prog W base spare held 40 v d p) :
    ∃ a0 a1 : ByteArray, v = .agg #[.string a0, .string a1] ∧ a0.size ≤ maxLen ∧ a1.size ≤ maxLen := by
  simp only [Value.okWide, Try.underlying40] at hv
  obtain ⟨cs, rfl, hsz, _⟩ := hv
  rw [show Try.prog.cellsOf 40 = 2 by kernel_rfl] at hsz
  obtain ⟨fuel, hf⟩ := h
  have ho := arr_trod Try.underlying40 (show Try.prog.cellsOf 9 = 1 by kernel_rfl) hf
  obtain ⟨l⟩ := cs
  match l, hsz with
  | [x, y], _ =>
    obtain ⟨m0, y0, h0⟩ := ho 0 (by omega)
    obtain ⟨m1, y1, h1⟩ := ho 1 (by omega)
    obtain ⟨a, ea, _, la⟩ := DataW.trod_string Try.underlying9 h0
    obtain ⟨b, eb, _, lb⟩ := DataW.trod_string Try.underlying9 h1
    have ea' : x = .string a := by simpa [Value.cells] using ea
    have eb' : y = .string b := by simpa [Value.cells] using eb
    subst ea' eb'
    exact ⟨a, b, rfl, la, lb⟩
end
end Go.Proofs.Ytdgahppgpldnpaa
