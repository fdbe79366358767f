/-
  Several texts of the proof: Law, Open, Came, Cuts, PiecesDoes.
-/
import Derived.Test.YthanghgfakibnaaPk00
import Derived.ProofKit
import Derived.OpenShut
import Derived.Lib.SmallJoins
import Derived.Deep.Fields
import Derived.Test.YthanghgfakibnaaPk01
import Derived.Test.YthanghgfakibnaaPk03
import Derived.Test.YthanghgfakibnaaPk09
import Derived.Test.YthanghgfakibnaaPk10
/-
  A law's last step, once for all laws of the seat: a law whose call returns true and turns nothing that was there keeps its row.
-/
namespace Go.Proofs.Ythanghgfakibnaa
open Go.ChangeShapes Go.WideShapes Go.ChangeAt Go.RowKit

set_option maxRecDepth 3000 in
theorem Try.own : ownKnob Try.prog.godebug = none := by kernel_rfl
set_option maxRecDepth 3000 in
theorem Try.laidOut : laidOutB Try.prog = true := by kernel_rfl

section
variable {H : Type} {enc : TypeId × Value → H}
set_option maxRecDepth 3000 in
/-- The arguments read as they did. -/
theorem trodAll_stays {W W' : World} (hb : Below W.heap.size W W') {sp : Nat → Bool} (ts : List TypeId) : ∀ {vs : List Value} {ds : List (DataW H)} {ps : List MemPlace},
    ts.all (fun t => Try.prog.readableRec t && decide (t < Try.prog.types.size)) = true → DataW.TrodAll enc Try.prog W 0 (fun _ => true) true ts vs ds ps →
    (∀ p ∈ ps, p.block < W.heap.size) → (∀ p ∈ ps, sp p.block = true) → DataW.TrodAll enc Try.prog W' 0 sp true ts vs ds ps := by
  induction ts with
  | nil =>
    intro vs ds ps _ h _ _
    cases vs with
    | nil => cases ds with
      | nil => exact h
      | cons _ _ => exact h.elim
    | cons _ _ => exact h.elim
  | cons t ts ih =>
    intro vs ds ps hr h hlt hsp
    cases vs with
    | nil => exact h.elim
    | cons v vs =>
      cases ds with
      | nil => exact h.elim
      | cons d ds =>
        obtain ⟨p, q, h1, h2, rfl⟩ := h
        simp only [List.all_cons, Bool.and_eq_true, decide_eq_true_eq] at hr
        exact ⟨p, q, WideElems.Trod_stays Try.laidOut hr.1.1 hr.1.2 h1 (fun x hx => hb.same (hlt x (by simp [hx]))) (fun x hx => hsp x (by simp [hx])),
          ih hr.2 h2 (fun x hx => hlt x (by simp [hx])) (fun x hx => hsp x (by simp [hx])), rfl⟩

set_option maxRecDepth 3000 in
/-- A law's row, lifted from its walk. -/
theorem law_lifted {os : Os} (started : os.Started) {f : FuncId} {fn : Func} {s : ChangeSpec} (noInit : Try.prog.inits.idxOf? f = none) (hfn : Try.prog.funcs[f]? = some fn)
    (hvars : s.vars = []) (hres : fn.resultTypes = #[4]) (hpar : fn.params.toList.all (fun t => Try.prog.readableRec t && decide (t < Try.prog.types.size)) = true)
    (hs : ∀ ds : List (DataW H), ds.length = fn.params.size → s.fn H ds = { results := [.lit (.bool true)], args := ds })
    (witness : ∃ (w : World) (tape : Tape) (i : Input), w.os = os ∧ (w.forCall tape i).Shaped Try.checked.prog ∧ i.vars = [] ∧ Input.okWide Try.checked.prog (w.forCall tape i) .any w.heap.size f i ∧
      s.pre6 enc Try.checked.prog fn [] false (w.forCall tape i).memory i.args ∧ Assume.holds {} Try.checked.prog (lone (Frame.enter Try.checked.prog f i.args .normal) [] (w.forCall tape i)))
    (contract : ∀ (W : World) (base : Nat) (args : Array Value) (ds : List (DataW H)) (p : List MemPlace),
      (∀ (j : Nat) t v, fn.params[j]? = some t → args[j]? = some v → Value.okWide Try.prog W .any base t v) →
      DataW.TrodAll enc Try.prog W 0 (fun _ => true) true fn.params.toList args.toList ds p →
      Calls Try.prog f args W fun e W' => e = .returned (.bool true) ∧ Grows W W') :
    ReturnsInHanded {} Try.checked os f .any (s.pre6 enc Try.prog fn [] false) (s.post enc Try.prog fn false true false false) := by
  refine returnsInHanded_of_change (C := Try.checked) Try.own started noInit hfn witness ?_
  intro W base args ds gs before hval hW _ _
  have hlt := hW.lt
  have hW' := hW
  obtain ⟨p, q, hA, hV, rfl, hfz, hnd⟩ := hW
  have hq : gs = [] ∧ q = [] := by
    rw [hvars] at hV
    cases gs with
    | nil => exact ⟨rfl, hV⟩
    | cons _ _ => exact hV.elim
  obtain ⟨rfl, rfl⟩ := hq
  have hlen : ds.length = fn.params.size := by
    have : ∀ {ts : List TypeId} {vs : List Value} {ds : List (DataW H)} {ps : List MemPlace}, DataW.TrodAll enc Try.prog W 0 (fun _ => true) true ts vs ds ps → ds.length = ts.length := by
      intro ts
      induction ts with
      | nil => intro vs ds ps h; cases vs <;> cases ds <;> first | rfl | exact h.elim
      | cons t ts ih =>
        intro vs ds ps h
        cases vs with
        | nil => exact h.elim
        | cons v vs =>
          cases ds with
          | nil => exact h.elim
          | cons d ds => obtain ⟨_, _, _, h2, _⟩ := h; simp [ih h2]
    have := this hA
    simpa using this
  have hsp := hs ds hlen
  refine (contract W base args ds p hval hA).mono fun e W' ⟨he, hg⟩ => ?_
  have hb := hg.below
  refine ⟨_, he, ?_⟩
  have hfn0 : s.fn H (ds ++ []) = { results := [.lit (.bool true)], args := ds } := by rw [List.append_nil]; exact hsp
  have hR : ∀ (b : Nat) (sp : Nat → Bool) (hd : Bool), DataW.TrodAll enc Try.prog W' b sp hd fn.resultTypes.toList ((Value.bool true).resultList fn.resultTypes.size) (s.fn H (ds ++ [])).results [] := by
    intro b sp hd
    rw [hfn0, hres]
    exact trodAll_mk1 (shut_bool Try.underlying4 true)
  have hargs : ∀ sp : Nat → Bool, (∀ x ∈ p ++ [], sp x.block = true) → DataW.TrodAll enc Try.prog W' 0 sp true fn.params.toList args.toList (s.fn H (ds ++ [])).args p := by
    intro sp h
    rw [hfn0]
    exact trodAll_stays hb _ hpar hA (fun x hx => hlt x (by simp [hx])) (fun x hx => h x (by simp [hx]))
  have hvs : ∀ sp : Nat → Bool, DataW.TrodVars enc Try.prog W' sp s.vars (s.fn H (ds ++ [])).vars [] := by
    intro sp
    rw [hfn0, hvars]
    rfl
  have hold : ∀ x ∈ p ++ [], (fun b => decide (b < W.heap.size)) x.block = true := fun x hx => by simpa using hlt x hx
  refine ⟨ds, [], p ++ [], [], p, [], hW', hR _ _ _, hargs _ hold, hvs _, World.keptBut_mono (fun x hx => ⟨hx, ?_⟩) (hb.frame (· ∈ p ++ [])), fun h => by cases h⟩
  rw [List.append_nil] at hx
  exact Or.inr (by simp [hx])
end
end Go.Proofs.Ythanghgfakibnaa

/-
  Arguments of the laws, opened: arrays of numbers, slices whose elements are read one by one, lists of strings.
-/
namespace Go.Proofs.Ythanghgfakibnaa
open Go.ChangeShapes Go.WideShapes Go.ChangeAt Go.RowKit Go.Joins

set_option maxRecDepth 3000 in
theorem i64_wf {n : Int} (h : (Lit.int .i64 n).wf = true) : I64 n := by
  simp [Lit.wf, IntKind.min, IntKind.max, IntKind.bits, IntKind.signed] at h
  exact ⟨by omega, by omega⟩
set_option maxRecDepth 3000 in
theorem u8_wf {n : Int} (h : (Lit.int .u8 n).wf = true) : 0 ≤ n ∧ n ≤ 255 := by
  simp [Lit.wf, IntKind.min, IntKind.max, IntKind.bits, IntKind.signed] at h
  exact ⟨by omega, by omega⟩

section
variable {H : Type} {enc : TypeId × Value → H} {P : Program} {W : World} {base b0 : Nat} {spare : Nat → Bool} {held : Bool}
set_option maxRecDepth 3000 in
theorem add_add_addr (a : Addr) (i j : Nat) : (a.add i).add j = a.add (i + j) := by
  unfold Addr.add
  by_cases hi : i = 0 <;> by_cases hj : j = 0 <;> simp [hi, hj, Nat.add_assoc]
set_option maxRecDepth 3000 in
theorem spot_of_cell {w : World} {a : Addr} {v : Value} (h : w.cell? a = some v) : a = ⟨a.block, a.off, none⟩ := by
  obtain ⟨b, o, s⟩ := a
  unfold World.cell? at h
  split at h
  · cases s with
    | none => rfl
    | some _ => simp at h
  · cases h
set_option maxRecDepth 3000 in
theorem flatten_at {size : Nat} : ∀ (css : List (List Value)), (∀ cs ∈ css, cs.length = size) → ∀ i j, j < size → css.flatten[i * size + j]? = (css[i]?).bind (·[j]?) := by
  intro css
  induction css with
  | nil => intro _ i j _; simp
  | cons c css ih =>
    intro h i j hj
    have hc : c.length = size := h c (by simp)
    rw [List.flatten_cons]
    cases i with
    | zero => rw [Nat.zero_mul, Nat.zero_add, List.getElem?_append_left (by omega)]; simp
    | succ i =>
      rw [List.getElem?_append_right (by rw [hc, Nat.succ_mul]; omega), List.getElem?_cons_succ, ← ih (fun x hx => h x (by simp [hx])) i j hj]
      congr 1
      rw [hc, Nat.succ_mul]
      omega
set_option maxRecDepth 3000 in
theorem length_flatten {size : Nat} (css : List (List Value)) (h : ∀ cs ∈ css, cs.length = size) : css.flatten.length = css.length * size := by
  induction css with
  | nil => simp
  | cons c css ih =>
    rw [List.flatten_cons, List.length_append, ih (fun x hx => h x (by simp [hx])), h c (by simp), List.length_cons, Nat.succ_mul]
    omega
set_option maxRecDepth 3000 in
/-- A slice, element by element: the cells of each, and that they can be read. -/
theorem open_rows {t e : TypeId} {size fuel : Nat} {cs : List Value} {x : DataW H × List MemPlace} (ht : P.underlying t = some (.slice e)) (hc : P.cellsOf e = size) (hsz : 0 < size)
    (h : DataW.trod enc P W base spare held fuel t cs = some x) :
    ∃ (A : Option Addr) (n cap : Nat) (css : List (List Value)), cs = [.slice A n cap] ∧ n ≤ cap ∧ cap ≤ maxLen ∧ css.length = n ∧ (∀ c ∈ css, c.length = size ∧ ∃ m y, DataW.trod enc P W base spare held m e c = some y) ∧ Rd W size A n css.flatten := by
  rcases DataW.trod_slice ht h with ⟨rfl, _⟩ | ⟨a, len, cap, elems, rest, m, _, rfl, _, _, hl, hm, hlen, hi, _, _⟩
  · exact ⟨none, 0, 0, [], rfl, Nat.le_refl _, Nat.zero_le _, rfl, by simp, Rd.nil_⟩
  · have key : ∀ i, i < len → ∃ c : List Value, c.length = size ∧ (∃ m y, DataW.trod enc P W base spare held m e c = some y) ∧ ∀ j, j < size → W.cell? (a.add (i * size + j)) = c[j]? := by
      intro i hil
      have h1 := hi i hil
      have h2 : elems[i]? = some (elems[i]'(by omega)) := List.getElem?_eq_getElem (by omega)
      rw [h2, hc] at h1
      cases hq : W.cells? base (a.add (i * size)) size with
      | none => rw [hq] at h1; cases h1
      | some c =>
        rw [hq] at h1
        obtain ⟨_, h3, h4⟩ := World.cells?_some hq
        exact ⟨c, h3, ⟨m, _, h1⟩, fun j hj => by rw [← h4 j hj, add_add_addr]⟩
    have build : ∀ n, n ≤ len → ∃ css : List (List Value), css.length = n ∧ (∀ c ∈ css, c.length = size ∧ ∃ m y, DataW.trod enc P W base spare held m e c = some y) ∧
        ∀ i c, css[i]? = some c → ∀ j, j < size → W.cell? (a.add (i * size + j)) = c[j]? := by
      intro n
      induction n with
      | zero => intro _; exact ⟨[], rfl, by simp, by simp⟩
      | succ n ih =>
        intro hn
        obtain ⟨css, h1, h2, h3⟩ := ih (by omega)
        obtain ⟨c, h4, h5, h6⟩ := key n (by omega)
        refine ⟨css ++ [c], by simp [h1], fun x hx => ?_, fun i d hd => ?_⟩
        · rcases List.mem_append.1 hx with hx | hx
          · exact h2 x hx
          · obtain rfl : x = c := by simpa using hx
            exact ⟨h4, h5⟩
        · by_cases hin : i < css.length
          · rw [List.getElem?_append_left hin] at hd
            exact h3 i d hd
          · rw [List.getElem?_append_right (by omega)] at hd
            have hi0 : i = n := by
              by_cases e : i - css.length = 0
              · omega
              · rw [List.getElem?_eq_none (by simp; omega)] at hd; cases hd
            subst hi0
            have : d = c := by rw [h1] at hd; simpa using hd.symm
            subst this
            exact h6
    obtain ⟨css, h1, h2, h3⟩ := build len (Nat.le_refl _)
    refine ⟨some a, len, cap, css, rfl, hl, hm, h1, h2, by rw [length_flatten css (fun c hc => (h2 c hc).1), h1], fun hpos => ?_⟩
    have hc0 : css[0]? = some (css[0]'(by omega)) := List.getElem?_eq_getElem (by omega)
    have hl0 := (h2 (css[0]'(by omega)) (List.getElem_mem _)).1
    have hz := h3 0 _ hc0 0 hsz
    rw [Nat.zero_mul, Nat.zero_add, List.getElem?_eq_getElem (by omega)] at hz
    have ha : a.add 0 = a := by simp [Addr.add]
    rw [ha] at hz
    refine ⟨a.block, a.off, by rw [← spot_of_cell hz], World.block_lt_of_cell? W a hz, fun j u hu => ?_⟩
    have hjlt : j < css.length * size := by
      have := (List.getElem?_eq_some_iff.1 hu).1
      rwa [length_flatten css (fun c hc => (h2 c hc).1)] at this
    have hdiv : j / size < css.length := Nat.div_lt_of_lt_mul (by rw [Nat.mul_comm]; exact hjlt)
    have hmod : j % size < size := Nat.mod_lt _ hsz
    have hje : j = j / size * size + j % size := by rw [Nat.mul_comm]; exact (Nat.div_add_mod j size).symm
    have hcd : css[j / size]? = some (css[j / size]'hdiv) := List.getElem?_eq_getElem hdiv
    have h4 := flatten_at css (fun c hc => (h2 c hc).1) (j / size) (j % size) hmod
    rw [← hje, hu, hcd] at h4
    have h5 := h3 _ _ hcd _ hmod
    rw [← hje] at h5
    have h6 : W.cell? (a.add j) = some u := by rw [h5]; exact h4.symm
    have e : a.add j = ⟨a.block, a.off + j, none⟩ := by
      have := spot_of_cell hz
      conv => lhs; rw [this]
      exact Addr.add_mid _ _ _
    rw [← e]
    exact h6
set_option maxRecDepth 3000 in
/-- A struct of fields of one cell each, field by field. -/
theorem open_fields {e : TypeId} {fs : Array Field} {m : Nat} {cs : List Value} {y : DataW H × List MemPlace} (he : P.underlying e = some (.struct fs)) (hone : Deep.oneCellFields P fs = true) (hC : P.cellsOf e = fs.size)
    (h : DataW.trod enc P W base spare held m e cs = some y) : cs.length = fs.size ∧ ∃ n, ∀ (j : Nat) (f : Field), fs[j]? = some f → ∃ v z, cs[j]? = some v ∧ DataW.trod enc P W base spare held n f.type [v] = some z := by
  obtain ⟨xs, n, _, _, hlen, hxl, hf⟩ := DataW.trod_struct he h
  rw [hC] at hlen
  refine ⟨hlen, n, fun j f hj => ?_⟩
  obtain ⟨ho, hk⟩ := Deep.hone_of hone j f hj
  have hjl : j < fs.size := (Array.getElem?_eq_some_iff.1 hj).1
  have h1 := hf j f hj
  rw [ho, hk, List.drop_eq_getElem_cons (by omega), List.getElem?_eq_getElem (by omega)] at h1
  exact ⟨cs[j]'(by omega), _, List.getElem?_eq_getElem _, h1⟩
set_option maxRecDepth 3000 in
/-- A list of strings. -/
theorem open_strs {t e : TypeId} {fuel : Nat} {cs : List Value} {x : DataW H × List MemPlace} (ht : P.underlying t = some (.slice e)) (he : P.underlying e = some .string) (hc : P.cellsOf e = 1)
    (h : DataW.trod enc P W base spare held fuel t cs = some x) :
    ∃ (A : Option Addr) (cap : Nat) (ss : List ByteArray), cs = [.slice A ss.length cap] ∧ ss.length ≤ cap ∧ cap ≤ maxLen ∧ (∀ s ∈ ss, s.size ≤ maxLen) ∧ Rd W 1 A ss.length (ss.map Value.string) := by
  obtain ⟨A, n, cap, css, rfl, h1, h2, h3, h4, h5⟩ := open_rows ht hc (by omega) h
  have key : ∀ css : List (List Value), (∀ c ∈ css, c.length = 1 ∧ ∃ m y, DataW.trod enc P W base spare held m e c = some y) → ∃ ss : List ByteArray, ss.length = css.length ∧ css.flatten = ss.map Value.string ∧ ∀ s ∈ ss, s.size ≤ maxLen := by
    intro css
    induction css with
    | nil => intro _; exact ⟨[], rfl, rfl, by simp⟩
    | cons c css ih =>
      intro hc
      obtain ⟨ss, e1, e2, e3⟩ := ih (fun x hx => hc x (by simp [hx]))
      obtain ⟨_, m, y, hy⟩ := hc c (by simp)
      obtain ⟨s, rfl, _, hs⟩ := DataW.trod_string he hy
      refine ⟨s :: ss, by simp [e1], by simp [e2], fun x hx => ?_⟩
      rcases List.mem_cons.1 hx with rfl | hx
      · exact hs
      · exact e3 x hx
  obtain ⟨ss, e1, e2, e3⟩ := key css h4
  have hn : n = ss.length := by omega
  subst hn
  exact ⟨A, cap, ss, rfl, h1, h2, e3, by rw [← e2]; exact h5⟩
end
end Go.Proofs.Ythanghgfakibnaa

/-
  Lists of lines that come in as arguments, or in the cells of an argument, opened.
-/
namespace Go.Proofs.Ythanghgfakibnaa
open Go.ChangeShapes Go.WideShapes Go.ChangeAt Go.RowKit Go.Joins

/-- A list of lines that came in. -/
structure Came (w : World) (A : Option Addr) (cap : Nat) (d : List (List UInt8)) : Prop where
  rd : Rd w 1 A d.length (lv d)
  nil : A = none → d.length = 0 ∧ cap = 0
  len : d.length ≤ 9223372036854775807
  each : ∀ s ∈ d, s.length ≤ 9223372036854775807
  le : d.length ≤ cap
  cap63 : cap ≤ 9223372036854775807
set_option maxRecDepth 3000 in
theorem Came.grows {w w' : World} {A : Option Addr} {cap : Nat} {d : List (List UInt8)} (h : Came w A cap d) (hg : Grows w w') : Came w' A cap d := ⟨h.rd.grows hg, h.nil, h.len, h.each, h.le, h.cap63⟩

section
variable {H : Type} {enc : TypeId × Value → H} {W : World} {base b0 : Nat} {spare : Nat → Bool} {held : Bool}
set_option maxRecDepth 3000 in
theorem open_lines_cell {c : Value} {fuel : Nat} {x : DataW H × List MemPlace} (hf : DataW.trod enc Try.prog W base spare held fuel 22 [c] = some x) :
    ∃ (A : Option Addr) (cap : Nat) (l : List (List UInt8)), c = .slice A l.length cap ∧ Came W A cap l := by
  obtain ⟨A, cap, ss, hcs, h1, h2, h3, h4⟩ := open_strs Try.underlying22 Try.underlying9 (by kernel_rfl) hf
  obtain rfl : c = .slice A ss.length cap := by simpa using hcs
  have hnil : A = none → ss.length = 0 ∧ cap = 0 := by
    intro ha
    rcases DataW.trod_slice Try.underlying22 hf with ⟨e, _⟩ | ⟨ad, _, _, _, _, _, _, e, _⟩
    · simp at e
      exact ⟨by simp [e.2.1], e.2.2⟩
    · simp at e
      rw [ha] at e
      cases e.1
  unfold maxLen at h2
  have hlv : lv (ss.map fun s => s.data.toList) = ss.map Value.string := by
    unfold lv
    rw [List.map_map, List.map_map]
    exact List.map_congr_left fun s _ => by simp [tx_of]
  refine ⟨A, cap, ss.map fun s => s.data.toList, by simp, ?_, by simpa using hnil, by simp; omega, ?_, by simpa using h1, h2⟩
  · rw [hlv]; simpa using h4
  · intro s hs
    obtain ⟨b, hb, rfl⟩ := List.mem_map.1 hs
    exact h3 b hb
set_option maxRecDepth 3000 in
theorem open_lines {v : Value} {d : DataW H} {p : List MemPlace} (hv : Value.okWide Try.prog W .any b0 22 v) (h : DataW.Trod enc Try.prog W base spare held 22 v d p) :
    ∃ (A : Option Addr) (cap : Nat) (l : List (List UInt8)), v = .slice A l.length cap ∧ Came W A cap l := by
  obtain ⟨a, len, cap, rfl⟩ := okWide_slice Try.underlying22 hv
  obtain ⟨fuel, hf⟩ := h
  exact open_lines_cell hf
end
end Go.Proofs.Ythanghgfakibnaa

/-
  Chapter 07: lists of cuts, in memory, opened.
-/
namespace Go.Proofs.Ythanghgfakibnaa
open Go.ChangeShapes Go.WideShapes Go.ChangeAt Go.RowKit Go.Joins

/-- A cut in memory, with its lines. -/
structure Cut where
  at_ : Int
  del : Int
  A : Option Addr
  cap : Nat
  ins : List (List UInt8)
def Cut.cells (s : Cut) : List Value := [.int .i64 s.at_, .int .i64 s.del, .slice s.A s.ins.length s.cap]
structure Cut.ok (w : World) (s : Cut) : Prop where
  at_ : I64 s.at_
  del : I64 s.del
  came : Came w s.A s.cap s.ins
set_option maxRecDepth 3000 in
theorem Cut.ok.grows {w w' : World} {s : Cut} (h : s.ok w) (hg : Grows w w') : s.ok w' := ⟨h.1, h.2, h.3.grows hg⟩
set_option maxRecDepth 3000 in
theorem cut_cells (L : List Cut) : ∀ (k : Nat) (h : k < L.length), (L.flatMap Cut.cells)[k * 3]? = some (.int .i64 L[k].at_) ∧ (L.flatMap Cut.cells)[k * 3 + 1]? = some (.int .i64 L[k].del) ∧ (L.flatMap Cut.cells)[k * 3 + 2]? = some (.slice L[k].A L[k].ins.length L[k].cap) := by
  induction L with
  | nil => intro k h; simp at h
  | cons s L ih =>
    intro k h
    match k with
    | 0 => simp [Cut.cells]
    | k + 1 =>
      have := ih k (by simpa using h)
      have e : (k + 1) * 3 = k * 3 + 3 := by omega
      simpa [Cut.cells, e] using this
set_option maxRecDepth 3000 in
/-- The cells of one of them, where they lie. -/
theorem Rd.cut {w : World} {A : Option Addr} {L : List Cut} (h : Rd w 3 A L.length (L.flatMap Cut.cells)) (k : Nat) (hk : k < L.length) : ∃ b o, A = some ⟨b, o, none⟩ ∧ b < w.heap.size ∧ w.cell? ⟨b, o + k * 3, none⟩ = some (.int .i64 L[k].at_) ∧ w.cell? ⟨b, o + k * 3 + 1, none⟩ = some (.int .i64 L[k].del) ∧ w.cell? ⟨b, o + k * 3 + 2, none⟩ = some (.slice L[k].A L[k].ins.length L[k].cap) := by
  obtain ⟨b, o, rfl, hb, hc⟩ := h.2 (by omega)
  obtain ⟨h0, h1, h2⟩ := cut_cells L k hk
  exact ⟨b, o, rfl, hb, hc _ _ h0, by rw [Nat.add_assoc]; exact hc _ _ h1, by rw [Nat.add_assoc]; exact hc _ _ h2⟩
/-- A list of cuts that came in. -/
structure CameCuts (w : World) (A : Option Addr) (cap : Nat) (L : List Cut) : Prop where
  rd : Rd w 3 A L.length (L.flatMap Cut.cells)
  len : L.length ≤ 9223372036854775807
  each : ∀ s ∈ L, s.ok w
set_option maxRecDepth 3000 in
theorem CameCuts.grows {w w' : World} {A : Option Addr} {cap : Nat} {L : List Cut} (h : CameCuts w A cap L) (hg : Grows w w') : CameCuts w' A cap L := ⟨h.1.grows hg, h.2, fun s hs => (h.3 s hs).grows hg⟩

section
variable {H : Type} {enc : TypeId × Value → H} {W : World} {base b0 : Nat} {spare : Nat → Bool} {held : Bool}
set_option maxRecDepth 3000 in
theorem open_cut3 {c0 c1 c2 : Value} {n : Nat} {z0 z1 z2 : DataW H × List MemPlace} (h0 : DataW.trod enc Try.prog W base spare held n 3 [c0] = some z0) (h1 : DataW.trod enc Try.prog W base spare held n 3 [c1] = some z1) (h2 : DataW.trod enc Try.prog W base spare held n 22 [c2] = some z2) :
    ∃ s : Cut, [c0, c1, c2] = s.cells ∧ s.ok W := by
  obtain ⟨a, q0, _, wa⟩ := DataW.trod_int Try.underlying3 h0
  obtain ⟨b, q1, _, wb⟩ := DataW.trod_int Try.underlying3 h1
  obtain ⟨A, cap, l, q2, hl⟩ := open_lines_cell h2
  simp only [List.cons.injEq, and_true] at q0 q1
  exact ⟨⟨a, b, A, cap, l⟩, by rw [q0, q1, q2]; rfl, ⟨i64_wf wa, i64_wf wb, hl⟩⟩
end
end Go.Proofs.Ythanghgfakibnaa

/-
  Pieces: the chapter's examples (does); the law's own Much.
-/
namespace Go.Proofs.Ythanghgfakibnaa
open Go.RowKit

set_option maxRecDepth 3000 in
theorem SpliceOut.yes {T : Tbl} {d : List (List UInt8)} {x : List (List UInt8) × Int} {w : World} {e : Ending} {w' : World} (h : SpliceOut T x w e w') (hx : x = (d, 0)) : ∃ U : Tbl, e = .returned (.tuple #[U.val, .int .i64 0]) ∧ TabOf w d U w' ∧ (∀ b, U.uses b → T.uses b ∨ w.heap.size ≤ b) ∧ U.ps.length ≤ T.ps.length + 2 := by
  subst hx
  rcases h with ⟨h, _⟩ | ⟨_, h⟩
  · exact absurd rfl h
  · exact h
set_option maxRecDepth 3000 in
theorem SpliceOut.no {T : Tbl} {c : Int} {x : List (List UInt8) × Int} {w : World} {e : Ending} {w' : World} (h : SpliceOut T x w e w') (hx : x.2 = c) (hc : c ≠ 0) : e = .returned (.tuple #[.pointer none, .int .i64 c]) ∧ Grows w w' := by
  subst hx
  rcases h with ⟨_, h⟩ | ⟨h, _⟩
  · exact h
  · exact absurd h hc
set_option maxRecDepth 3000 in
theorem splice_n (T : Tbl) (at_ del : Int) (I : Option Addr) (n ci : Nat) (ins : List (List UInt8)) (w : World) (hT : T.ok w) (hn : n = ins.length) (hI : Rd w 1 I ins.length (lv ins)) (hnI : I = none → ins.length = 0 ∧ ci = 0) (hi : ins.length ≤ 1000000) (hl : ∀ s ∈ ins, s.length ≤ 9223372036854775807) (ha : I64 at_) (hd : I64 del) :
    Calls Try.prog 42 #[T.val, .int .i64 at_, .int .i64 del, .slice I n ci] w (SpliceOut T (spliceV T.L at_ del ins) w) := by
  subst hn; exact splice_any T at_ del I ci ins w hT hI hnI hi hl ha hd
set_option maxRecDepth 3000 in
theorem new_n (A : Option Addr) (n cap : Nat) (d : List (List UInt8)) (w : World) (hn : n = d.length) (hA : Rd w 1 A d.length (lv d)) (hd : d.length ≤ 1000000) (hnil : A = none → d.length = 0 ∧ cap = 0) (hl : ∀ s ∈ d, s.length ≤ 9223372036854775807) (hok : lcheckV d = 0) :
    Calls Try.prog 46 #[.slice A n cap] w (TabNew d w) := by
  subst hn; exact pnew_any A cap d w hA hd hnil hl hok

/-- What Much answers. -/
def insSum (L : List Cut) : Nat := (L.map fun c => c.ins.length).sum
def MuchPost (L : List Cut) (w : World) (e : Ending) (w' : World) : Prop :=
  ∃ b, e = .returned (.bool b) ∧ (b = false → L.length ≤ 60 ∧ (∀ c ∈ L, c.ins.length ≤ 2100 ∧ byteSum c.ins ≤ 5000) ∧ insSum L ≤ 4000) ∧ w = w'
set_option maxRecDepth 3000 in
theorem insSum_take (L : List Cut) (k : Nat) (h : k < L.length) : insSum (L.take (k + 1)) = insSum (L.take k) + L[k].ins.length := by
  unfold insSum
  rw [List.take_add_one, List.getElem?_eq_getElem h, List.map_append, List.sum_append]
  simp
set_option maxRecDepth 3000 in
theorem insSum_le (L : List Cut) (h : ∀ c ∈ L, c.ins.length ≤ 2100 ∧ byteSum c.ins ≤ 5000) : insSum L ≤ L.length * 2100 := by
  induction L with
  | nil => simp [insSum]
  | cons c L ih =>
    have h1 := (h c (by simp)).1
    have h2 := ih (fun x hx => h x (by simp [hx]))
    simp only [insSum, List.map_cons, List.sum_cons, List.length_cons] at h2 ⊢
    omega
set_option maxRecDepth 3000 in
theorem wrap_wrap (a b : Int) : wrap64 (wrap64 a + b) = wrap64 (a + b) := by unfold wrap64; omega
set_option maxRecDepth 3000 in
theorem wrap_zero : wrap64 0 = 0 := by unfold wrap64; omega
end Go.Proofs.Ythanghgfakibnaa
