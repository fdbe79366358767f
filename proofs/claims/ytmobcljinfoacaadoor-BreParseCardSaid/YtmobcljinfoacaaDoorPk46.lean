/-
  Arguments of the laws, opened: arrays of numbers, slices whose elements are read one by one, lists of strings.
-/
import Derived.Test.YtmobcljinfoacaaDoorPk45
import Derived.Deep.Fields
namespace Go.Proofs.YtmobcljinfoacaaDoor
open Go.ChangeShapes Go.WideShapes Go.ChangeAt Go.RowKit Go.Joins

set_option maxRecDepth 3000 in
theorem i64_wf {n : Int} (h : (Lit.int .i64 n).wf = true) : I64 n := by
  simp [Lit.wf, IntKind.min, IntKind.max, IntKind.bits, IntKind.signed] at h
  exact ⟨by omega, by omega⟩
set_option maxRecDepth 3000 in
theorem u8_wf {n : Int} (h : (Lit.int .u8 n).wf = true) : 0 ≤ n ∧ n ≤ 255 := by
  simp [Lit.wf, IntKind.min, IntKind.max, IntKind.bits, IntKind.signed] at h
  exact ⟨by omega, by omega⟩

section
variable {H : Type} {enc : TypeId × Value → H} {P : Program} {W : World} {base b0 : Nat} {spare : Nat → Bool} {held : Bool}
set_option maxRecDepth 3000 in
theorem add_add_addr (a : Addr) (i j : Nat) : (a.add i).add j = a.add (i + j) := by
  unfold Addr.add
  by_cases hi : i = 0 <;> by_cases hj : j = 0 <;> simp [hi, hj, Nat.add_assoc]
set_option maxRecDepth 3000 in
theorem spot_of_cell {w : World} {a : Addr} {v : Value} (h : w.cell? a = some v) : a = ⟨a.block, a.off, none⟩ := by
  obtain ⟨b, o, s⟩ := a
  unfold World.cell? at h
  split at h
  · cases s with
    | none => rfl
    | some _ => simp at h
  · cases h
set_option maxRecDepth 3000 in
theorem flatten_at {size : Nat} : ∀ (css : List (List Value)), (∀ cs ∈ css, cs.length = size) → ∀ i j, j < size → css.flatten[i * size + j]? = (css[i]?).bind (·[j]?) := by
  intro css
  induction css with
  | nil => intro _ i j _; simp
  | cons c css ih =>
    intro h i j hj
    have hc : c.length = size := h c (by simp)
    rw [List.flatten_cons]
    cases i with
    | zero => rw [Nat.zero_mul, Nat.zero_add, List.getElem?_append_left (by omega)]; simp
    | succ i =>
      rw [List.getElem?_append_right (by rw [hc, Nat.succ_mul]; omega), List.getElem?_cons_succ, ← ih (fun x hx => h x (by simp [hx])) i j hj]
      congr 1
      rw [hc, Nat.succ_mul]
      omega
set_option maxRecDepth 3000 in
theorem length_flatten {size : Nat} (css : List (List Value)) (h : ∀ cs ∈ css, cs.length = size) : css.flatten.length = css.length * size := by
  induction css with
  | nil => simp
  | cons c css ih =>
    rw [List.flatten_cons, List.length_append, ih (fun x hx => h x (by simp [hx])), h c (by simp), List.length_cons, Nat.succ_mul]
    omega
set_option maxRecDepth 3000 in
/-- A slice, element by element: the cells of each, and that they can be read. -/
theorem open_rows {t e : TypeId} {size fuel : Nat} {cs : List Value} {x : DataW H × List MemPlace} (ht : P.underlying t = some (.slice e)) (hc : P.cellsOf e = size) (hsz : 0 < size)
    (h : DataW.trod enc P W base spare held fuel t cs = some x) :
    ∃ (A : Option Addr) (n cap : Nat) (css : List (List Value)), cs = [.slice A n cap] ∧ n ≤ cap ∧ cap ≤ maxLen ∧ css.length = n ∧ (∀ c ∈ css, c.length = size ∧ ∃ m y, DataW.trod enc P W base spare held m e c = some y) ∧ Rd W size A n css.flatten := by
  rcases DataW.trod_slice ht h with ⟨rfl, _⟩ | ⟨a, len, cap, elems, rest, m, _, rfl, _, _, hl, hm, hlen, hi, _, _⟩
  · exact ⟨none, 0, 0, [], rfl, Nat.le_refl _, Nat.zero_le _, rfl, by simp, Rd.nil_⟩
  · have key : ∀ i, i < len → ∃ c : List Value, c.length = size ∧ (∃ m y, DataW.trod enc P W base spare held m e c = some y) ∧ ∀ j, j < size → W.cell? (a.add (i * size + j)) = c[j]? := by
      intro i hil
      have h1 := hi i hil
      have h2 : elems[i]? = some (elems[i]'(by omega)) := List.getElem?_eq_getElem (by omega)
      rw [h2, hc] at h1
      cases hq : W.cells? base (a.add (i * size)) size with
      | none => rw [hq] at h1; cases h1
      | some c =>
        rw [hq] at h1
        obtain ⟨_, h3, h4⟩ := World.cells?_some hq
        exact ⟨c, h3, ⟨m, _, h1⟩, fun j hj => by rw [← h4 j hj, add_add_addr]⟩
    have build : ∀ n, n ≤ len → ∃ css : List (List Value), css.length = n ∧ (∀ c ∈ css, c.length = size ∧ ∃ m y, DataW.trod enc P W base spare held m e c = some y) ∧
        ∀ i c, css[i]? = some c → ∀ j, j < size → W.cell? (a.add (i * size + j)) = c[j]? := by
      intro n
      induction n with
      | zero => intro _; exact ⟨[], rfl, by simp, by simp⟩
      | succ n ih =>
        intro hn
        obtain ⟨css, h1, h2, h3⟩ := ih (by omega)
        obtain ⟨c, h4, h5, h6⟩ := key n (by omega)
        refine ⟨css ++ [c], by simp [h1], fun x hx => ?_, fun i d hd => ?_⟩
        · rcases List.mem_append.1 hx with hx | hx
          · exact h2 x hx
          · obtain rfl : x = c := by simpa using hx
            exact ⟨h4, h5⟩
        · by_cases hin : i < css.length
          · rw [List.getElem?_append_left hin] at hd
            exact h3 i d hd
          · rw [List.getElem?_append_right (by omega)] at hd
            have hi0 : i = n := by
              by_cases e : i - css.length = 0
              · omega
              · rw [List.getElem?_eq_none (by simp; omega)] at hd; cases hd
            subst hi0
            have : d = c := by rw [h1] at hd; simpa using hd.symm
            subst this
            exact h6
    obtain ⟨css, h1, h2, h3⟩ := build len (Nat.le_refl _)
    refine ⟨some a, len, cap, css, rfl, hl, hm, h1, h2, by rw [length_flatten css (fun c hc => (h2 c hc).1), h1], fun hpos => ?_⟩
    have hc0 : css[0]? = some (css[0]'(by omega)) := List.getElem?_eq_getElem (by omega)
    have hl0 := (h2 (css[0]'(by omega)) (List.getElem_mem _)).1
    have hz := h3 0 _ hc0 0 hsz
    rw [Nat.zero_mul, Nat.zero_add, List.getElem?_eq_getElem (by omega)] at hz
    have ha : a.add 0 = a := by simp [Addr.add]
    rw [ha] at hz
    refine ⟨a.block, a.off, by rw [← spot_of_cell hz], World.block_lt_of_cell? W a hz, fun j u hu => ?_⟩
    have hjlt : j < css.length * size := by
      have := (List.getElem?_eq_some_iff.1 hu).1
      rwa [length_flatten css (fun c hc => (h2 c hc).1)] at this
    have hdiv : j / size < css.length := Nat.div_lt_of_lt_mul (by rw [Nat.mul_comm]; exact hjlt)
    have hmod : j % size < size := Nat.mod_lt _ hsz
    have hje : j = j / size * size + j % size := by rw [Nat.mul_comm]; exact (Nat.div_add_mod j size).symm
    have hcd : css[j / size]? = some (css[j / size]'hdiv) := List.getElem?_eq_getElem hdiv
    have h4 := flatten_at css (fun c hc => (h2 c hc).1) (j / size) (j % size) hmod
    rw [← hje, hu, hcd] at h4
    have h5 := h3 _ _ hcd _ hmod
    rw [← hje] at h5
    have h6 : W.cell? (a.add j) = some u := by rw [h5]; exact h4.symm
    have e : a.add j = ⟨a.block, a.off + j, none⟩ := by
      have := spot_of_cell hz
      conv => lhs; rw [this]
      exact Addr.add_mid _ _ _
    rw [← e]
    exact h6
set_option maxRecDepth 3000 in
/-- A struct of fields of one cell each, field by field. -/
theorem open_fields {e : TypeId} {fs : Array Field} {m : Nat} {cs : List Value} {y : DataW H × List MemPlace} (he : P.underlying e = some (.struct fs)) (hone : Deep.oneCellFields P fs = true) (hC : P.cellsOf e = fs.size)
    (h : DataW.trod enc P W base spare held m e cs = some y) : cs.length = fs.size ∧ ∃ n, ∀ (j : Nat) (f : Field), fs[j]? = some f → ∃ v z, cs[j]? = some v ∧ DataW.trod enc P W base spare held n f.type [v] = some z := by
  obtain ⟨xs, n, _, _, hlen, hxl, hf⟩ := DataW.trod_struct he h
  rw [hC] at hlen
  refine ⟨hlen, n, fun j f hj => ?_⟩
  obtain ⟨ho, hk⟩ := Deep.hone_of hone j f hj
  have hjl : j < fs.size := (Array.getElem?_eq_some_iff.1 hj).1
  have h1 := hf j f hj
  rw [ho, hk, List.drop_eq_getElem_cons (by omega), List.getElem?_eq_getElem (by omega)] at h1
  exact ⟨cs[j]'(by omega), _, List.getElem?_eq_getElem _, h1⟩
set_option maxRecDepth 3000 in
/-- A list of strings. -/
theorem open_strs {t e : TypeId} {fuel : Nat} {cs : List Value} {x : DataW H × List MemPlace} (ht : P.underlying t = some (.slice e)) (he : P.underlying e = some .string) (hc : P.cellsOf e = 1)
    (h : DataW.trod enc P W base spare held fuel t cs = some x) :
    ∃ (A : Option Addr) (cap : Nat) (ss : List ByteArray), cs = [.slice A ss.length cap] ∧ ss.length ≤ cap ∧ cap ≤ maxLen ∧ (∀ s ∈ ss, s.size ≤ maxLen) ∧ Rd W 1 A ss.length (ss.map Value.string) := by
  obtain ⟨A, n, cap, css, rfl, h1, h2, h3, h4, h5⟩ := open_rows ht hc (by omega) h
  have key : ∀ css : List (List Value), (∀ c ∈ css, c.length = 1 ∧ ∃ m y, DataW.trod enc P W base spare held m e c = some y) → ∃ ss : List ByteArray, ss.length = css.length ∧ css.flatten = ss.map Value.string ∧ ∀ s ∈ ss, s.size ≤ maxLen := by
    intro css
    induction css with
    | nil => intro _; exact ⟨[], rfl, rfl, by simp⟩
    | cons c css ih =>
      intro hc
      obtain ⟨ss, e1, e2, e3⟩ := ih (fun x hx => hc x (by simp [hx]))
      obtain ⟨_, m, y, hy⟩ := hc c (by simp)
      obtain ⟨s, rfl, _, hs⟩ := DataW.trod_string he hy
      refine ⟨s :: ss, by simp [e1], by simp [e2], fun x hx => ?_⟩
      rcases List.mem_cons.1 hx with rfl | hx
      · exact hs
      · exact e3 x hx
  obtain ⟨ss, e1, e2, e3⟩ := key css h4
  have hn : n = ss.length := by omega
  subst hn
  exact ⟨A, cap, ss, rfl, h1, h2, e3, by rw [← e2]; exact h5⟩
end
end Go.Proofs.YtmobcljinfoacaaDoor
