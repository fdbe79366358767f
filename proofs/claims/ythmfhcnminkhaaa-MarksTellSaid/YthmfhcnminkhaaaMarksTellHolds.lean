/-
  Chapter 16: the law MarksTell, said of its row.
  MarksTell returns true for every array of marks, every three numbers and every splice; its arguments read as they did.
-/
import Derived.Test.YthmfhcnminkhaaaMarksTell
import Derived.Test.YthmfhcnminkhaaaLaw
namespace Go.Proofs.Ythmfhcnminkhaaa
open Go.ChangeShapes Go.WideShapes Go.ChangeAt Go.RowKit Go.Joins

section
variable {H : Type} {enc : TypeId × Value → H} {W : World} {base b0 : Nat} {spare : Nat → Bool} {held : Bool}
theorem i64_wf {n : Int} (h : (Lit.int .i64 n).wf = true) : I64 n := by
  simp [Lit.wf, IntKind.min, IntKind.max, IntKind.bits, IntKind.signed] at h
  exact ⟨by omega, by omega⟩
/-- An array of numbers. -/
theorem open_nums {t e : TypeId} {n : Nat} {v : Value} {d : DataW H} {p : List MemPlace} (ht : Try.prog.underlying t = some (.array n e)) (he : Try.prog.underlying e = some (.int .i64)) (hc : Try.prog.cellsOf e = 1) (hn : Try.prog.cellsOf t = n)
    (hv : Value.okWide Try.prog W .any b0 t v) (h : DataW.Trod enc Try.prog W base spare held t v d p) : ∃ ms : List Int, v = .agg (MA ms) ∧ ms.length = n ∧ ∀ x ∈ ms, I64 x := by
  simp only [Value.okWide, ht] at hv
  obtain ⟨cs, rfl, hsz, _⟩ := hv
  obtain ⟨fuel, hf⟩ := h
  obtain ⟨xs, m, _, _, hlen, _, hi⟩ := DataW.trod_array ht hf
  have key : ∀ i (hi : i < cs.toList.length), ∃ x, cs.toList[i] = .int .i64 x ∧ I64 x := by
    intro i hil
    have hin : i < n := by simp at hil; omega
    have h1 := hi i hin
    rw [hc, Nat.mul_one] at h1
    have h2 : ((Value.agg cs).cells.toList.drop i).take 1 = [cs.toList[i]] := by
      show (cs.toList.drop i).take 1 = _
      rw [List.drop_eq_getElem_cons hil]
      rfl
    rw [h2] at h1
    have h3 : xs[i]? = some (xs[i]'(by omega)) := List.getElem?_eq_getElem (by omega)
    rw [h3] at h1
    obtain ⟨x, h4, _, h5⟩ := DataW.trod_int he h1
    exact ⟨x, by simpa using h4, i64_wf h5⟩
  have build : ∀ l : List Value, (∀ i (hi : i < l.length), ∃ x, l[i] = .int .i64 x ∧ I64 x) → ∃ ms : List Int, l = ms.map (Value.int .i64) ∧ ∀ x ∈ ms, I64 x := by
    intro l
    induction l with
    | nil => intro _; exact ⟨[], rfl, by simp⟩
    | cons a l ih =>
      intro hl
      obtain ⟨x, hx, hx'⟩ := hl 0 (by simp)
      obtain ⟨ms, hms, hall⟩ := ih (fun i hi => by have := hl (i + 1) (by simpa using hi); rw [List.getElem_cons_succ] at this; exact this)
      refine ⟨x :: ms, ?_, ?_⟩
      · rw [hms, List.map_cons]; congr 1
      · intro y hy
        rcases List.mem_cons.1 hy with rfl | hy
        · exact hx'
        · exact hall y hy
  obtain ⟨ms, hms, hall⟩ := build cs.toList key
  have hcs : cs = MA ms := by
    rw [← Array.toArray_toList (xs := cs), hms]; rfl
  refine ⟨ms, by rw [hcs], ?_, hall⟩
  rw [hcs] at hsz
  simpa [hn] using hsz
theorem open_splice {v : Value} {d : DataW H} {p : List MemPlace} (hv : Value.okWide Try.prog W .any b0 27 v) (h : DataW.Trod enc Try.prog W base spare held 27 v d p) :
    ∃ (at_ del : Int) (A : Option Addr) (len cap : Nat), v = .agg #[.int .i64 at_, .int .i64 del, .slice A len cap] ∧ I64 at_ ∧ I64 del ∧ len ≤ 9223372036854775807 := by
  obtain ⟨c0, c1, c2, y0, y1, y2, n, rfl, _, _, h0, h1, h2⟩ := open_agg3 Try.underlying27 (by kernel_rfl) (by kernel_rfl) hv h
  obtain ⟨a, e0, _, wa⟩ := DataW.trod_int Try.underlying3 h0
  obtain ⟨b, e1, _, wb⟩ := DataW.trod_int Try.underlying3 h1
  simp only [List.cons.injEq, and_true] at e0 e1
  subst e0 e1
  rcases DataW.trod_slice Try.underlying25 h2 with ⟨e2, _⟩ | ⟨ad, len, cap, _, _, _, _, e2, _, _, hl, hm, _⟩
  · simp only [List.cons.injEq, and_true] at e2
    subst e2
    exact ⟨a, b, none, 0, 0, rfl, i64_wf wa, i64_wf wb, by omega⟩
  · simp only [List.cons.injEq, and_true] at e2
    subst e2
    unfold maxLen at hm
    exact ⟨a, b, some ad, len, cap, rfl, i64_wf wa, i64_wf wb, by omega⟩
end

set_option maxRecDepth 100000 in
theorem marksTell_lifted (os : Os) (started : os.Started) (H : Type) (enc : TypeId × Value → H) :
    ReturnsInHanded {} Try.checked os 3 .any (Rows.marksTellSpec.pre6 enc Try.prog Try.f3 Rows.marksTellRow.domain false) (Rows.marksTellSpec.post enc Try.prog Try.f3 false true false false) :=
  law_lifted (s := Rows.marksTellSpec) started (by kernel_rfl) Try.func3 rfl (by kernel_rfl) (by kernel_rfl)
    (fun ds h => by
      rw [show Try.f3.params.size = 3 by kernel_rfl] at h
      match ds, h with
      | [_, _, _], _ => rfl)
    (ChangeSpec.witness6 (enc := enc) (C := Try.checked) false ⟨#[], #[.agg (MA zeros), .agg #[.int .i64 0, .int .i64 0, .int .i64 0], .agg #[.int .i64 0, .int .i64 0, .slice none 0 0]], []⟩ 8 (by kernel_rfl) (by kernel_rfl) (by kernel_rfl) (by kernel_rfl))
    (fun W base args ds p hval hA => by
      rw [Try.params3] at hA hval
      obtain ⟨v0, v1, v2, d0, d1, d2, p0, p1, p2, rfl, rfl, rfl, h0, h1, h2⟩ := trodAll_three hA
      obtain ⟨ms, rfl, hms, hm⟩ := open_nums Try.underlying23 Try.underlying3 (by kernel_rfl) (by kernel_rfl) (hval 0 23 v0 rfl rfl) h0
      obtain ⟨ns, rfl, hns, hn⟩ := open_nums Try.underlying24 Try.underlying3 (by kernel_rfl) (by kernel_rfl) (hval 1 24 v1 rfl rfl) h1
      obtain ⟨at_, del, A, len, cap, rfl, ha, hd, hl⟩ := open_splice (hval 2 27 v2 rfl rfl) h2
      match ns, hns with
      | [a, b, c], _ => exact marksTell_any ms a b c at_ del A len cap W hms hm (hn b (by simp)) ha hd hl)

theorem marksTell_holds : Rows.MarksTellSaid :=
  OpenClaim.holds_of_wide 3 Try.f3 rfl rfl rfl rfl rfl rfl rfl ⟨rfl, rfl, rfl, rfl, rfl⟩ rfl rfl rfl rfl rfl (by kernel_rfl) Try.func3 (by kernel_rfl)
    (of_decide_eq_true (by kernel_rfl)) (by unfold Func.isWrapper; first | (rw [if_pos (by decide +kernel)]; kernel_rfl) | (rw [if_neg (by decide +kernel)]; exact ⟨rfl, rfl⟩))
    (fun os started H enc _ => marksTell_lifted os started H enc)

#print axioms marksTell_holds
end Go.Proofs.Ythmfhcnminkhaaa
