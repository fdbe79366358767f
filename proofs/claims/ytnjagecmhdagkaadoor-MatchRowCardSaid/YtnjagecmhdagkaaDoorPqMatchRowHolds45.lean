/-
  Lists of bytes that come in as arguments, opened.
-/
import Derived.Test.YtnjagecmhdagkaaDoorPk39
set_option linter.unusedSimpArgs false
set_option linter.unusedVariables false
namespace Go.Proofs.YtnjagecmhdagkaaDoor
open Go.ChangeShapes Go.WideShapes Go.ChangeAt Go.RowKit Go.Joins

/-- A list of bytes that came in. -/
structure CameBytes (w : World) (A : Option Addr) (cap : Nat) (ns : List Int) : Prop where
  rd : Rd w 1 A ns.length (ns.map (Value.int .u8))
  nil : A = none → ns.length = 0 ∧ cap = 0
  len : ns.length ≤ 9223372036854775807
  each : ∀ n ∈ ns, 0 ≤ n ∧ n ≤ 255
set_option maxRecDepth 3000 in
theorem CameBytes.grows {w w' : World} {A : Option Addr} {cap : Nat} {ns : List Int} (h : CameBytes w A cap ns) (hg : Grows w w') : CameBytes w' A cap ns := ⟨h.1.grows hg, h.2, h.3, h.4⟩
set_option maxRecDepth 3000 in
theorem CameBytes.at_ {w : World} {A : Option Addr} {cap : Nat} {ns : List Int} (h : CameBytes w A cap ns) (k : Nat) (hk : k < ns.length) : ∃ b o, A = some ⟨b, o, none⟩ ∧ b < w.heap.size ∧ w.cell? ⟨b, o + k, none⟩ = some (.int .u8 ns[k]) := by
  obtain ⟨b, o, e, hb, hc⟩ := h.rd.at_ (j := k) (by simpa using hk)
  exact ⟨b, o, e, hb, by simpa using hc⟩
section
variable {H : Type} {enc : TypeId × Value → H} {W : World} {base b0 : Nat} {spare : Nat → Bool} {held : Bool}
set_option maxRecDepth 3000 in
theorem open_bytes {v : Value} {d : DataW H} {p : List MemPlace} (hv : Value.okWide Tryd.prog W .any b0 33 v) (h : DataW.Trod enc Tryd.prog W base spare held 33 v d p) :
    ∃ (A : Option Addr) (ns : List Int) (cap : Nat), v = .slice A ns.length cap ∧ CameBytes W A cap ns := by
  obtain ⟨a, len, cap, rfl⟩ := okWide_slice Tryd.underlying33 hv
  obtain ⟨fuel, hf⟩ := h
  obtain ⟨A, n, cap, css, hcs, h1, h2, h3, h4, h5⟩ := open_rows Tryd.underlying33 (show Tryd.prog.cellsOf 5 = 1 by kernel_rfl) (by omega) hf
  have key : ∀ css : List (List Value), (∀ c ∈ css, c.length = 1 ∧ ∃ m y, DataW.trod enc Tryd.prog W base spare held m 5 c = some y) → ∃ ns : List Int, ns.length = css.length ∧ css.flatten = ns.map (Value.int .u8) ∧ ∀ n ∈ ns, 0 ≤ n ∧ n ≤ 255 := by
    intro css
    induction css with
    | nil => intro _; exact ⟨[], rfl, rfl, by simp⟩
    | cons c css ih =>
      intro hc
      obtain ⟨ns, e1, e2, e3⟩ := ih (fun x hx => hc x (by simp [hx]))
      obtain ⟨_, m, y, hy⟩ := hc c (by simp)
      obtain ⟨s, rfl, _, hs⟩ := DataW.trod_int Tryd.underlying5 hy
      refine ⟨s :: ns, by simp [e1], by simp [e2], fun x hx => ?_⟩
      rcases List.mem_cons.1 hx with rfl | hx
      · exact u8_wf hs
      · exact e3 x hx
  obtain ⟨ns, e1, e2, e3⟩ := key css h4
  have hn : n = ns.length := by omega
  subst hn
  have hnil : a = none → ns.length = 0 ∧ cap = 0 := by
    intro ha
    rcases DataW.trod_slice Tryd.underlying33 hf with ⟨e, _⟩ | ⟨ad, _, _, _, _, _, _, e, _⟩
    · simp [Value.cells] at e hcs
      obtain ⟨rfl, rfl, rfl⟩ := hcs
      exact ⟨by simpa using e.2.1, e.2.2⟩
    · simp [Value.cells] at e
      rw [ha] at e
      cases e.1
  simp [Value.cells] at hcs
  obtain ⟨rfl, rfl, rfl⟩ := hcs
  unfold maxLen at h2
  exact ⟨a, ns, cap, rfl, ⟨by rw [← e2]; exact h5, hnil, by omega, e3⟩⟩
end
end Go.Proofs.YtnjagecmhdagkaaDoor
