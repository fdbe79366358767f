/-
  Several texts of the proof: Law, Open, OpenBytes, Atoms, MatTxt.
-/
import Derived.Test.YtnjagecmhdagkaaDoorPk00
import Derived.ProofKit
import Derived.OpenShut
import Derived.Lib.SmallJoins
import Derived.Deep.Fields
import Derived.Test.YtnjagecmhdagkaaDoorPk41
import Derived.Test.YtnjagecmhdagkaaDoorPk43
set_option linter.unusedSimpArgs false
set_option linter.unusedVariables false
/-
  A law's last step, once for all laws of the seat: a law whose call returns true and turns nothing that was there keeps its row.
-/
namespace Go.Proofs.YtnjagecmhdagkaaDoor
open Go.ChangeShapes Go.WideShapes Go.ChangeAt Go.RowKit

set_option maxRecDepth 3000 in
theorem Tryd.own : ownKnob Tryd.prog.godebug = none := by kernel_rfl
set_option maxRecDepth 3000 in
theorem Tryd.laidOut : laidOutB Tryd.prog = true := by kernel_rfl

section
variable {H : Type} {enc : TypeId × Value → H}
set_option maxRecDepth 3000 in
/-- The arguments read as they did. -/
theorem trodAll_stays {W W' : World} (hb : Below W.heap.size W W') {sp : Nat → Bool} (ts : List TypeId) : ∀ {vs : List Value} {ds : List (DataW H)} {ps : List MemPlace},
    ts.all (fun t => Tryd.prog.readableRec t && decide (t < Tryd.prog.types.size)) = true → DataW.TrodAll enc Tryd.prog W 0 (fun _ => true) true ts vs ds ps →
    (∀ p ∈ ps, p.block < W.heap.size) → (∀ p ∈ ps, sp p.block = true) → DataW.TrodAll enc Tryd.prog W' 0 sp true ts vs ds ps := by
  induction ts with
  | nil =>
    intro vs ds ps _ h _ _
    cases vs with
    | nil => cases ds with
      | nil => exact h
      | cons _ _ => exact h.elim
    | cons _ _ => exact h.elim
  | cons t ts ih =>
    intro vs ds ps hr h hlt hsp
    cases vs with
    | nil => exact h.elim
    | cons v vs =>
      cases ds with
      | nil => exact h.elim
      | cons d ds =>
        obtain ⟨p, q, h1, h2, rfl⟩ := h
        simp only [List.all_cons, Bool.and_eq_true, decide_eq_true_eq] at hr
        exact ⟨p, q, WideElems.Trod_stays Tryd.laidOut hr.1.1 hr.1.2 h1 (fun x hx => hb.same (hlt x (by simp [hx]))) (fun x hx => hsp x (by simp [hx])),
          ih hr.2 h2 (fun x hx => hlt x (by simp [hx])) (fun x hx => hsp x (by simp [hx])), rfl⟩

set_option maxRecDepth 3000 in
/-- A law's row, lifted from its walk. -/
theorem law_lifted {os : Os} (started : os.Started) {f : FuncId} {fn : Func} {s : ChangeSpec} (noInit : Tryd.prog.inits.idxOf? f = none) (hfn : Tryd.prog.funcs[f]? = some fn)
    (hvars : s.vars = []) (hres : fn.resultTypes = #[4]) (hpar : fn.params.toList.all (fun t => Tryd.prog.readableRec t && decide (t < Tryd.prog.types.size)) = true)
    (hs : ∀ ds : List (DataW H), ds.length = fn.params.size → s.fn H ds = { results := [.lit (.bool true)], args := ds })
    (witness : ∃ (w : World) (tape : Tape) (i : Input), w.os = os ∧ (w.forCall tape i).Shaped Tryd.checked.prog ∧ i.vars = [] ∧ Input.okWide Tryd.checked.prog (w.forCall tape i) .any w.heap.size f i ∧
      s.pre6 enc Tryd.checked.prog fn [] false (w.forCall tape i).memory i.args ∧ Assume.holds {} Tryd.checked.prog (lone (Frame.enter Tryd.checked.prog f i.args .normal) [] (w.forCall tape i)))
    (contract : ∀ (W : World) (base : Nat) (args : Array Value) (ds : List (DataW H)) (p : List MemPlace),
      (∀ (j : Nat) t v, fn.params[j]? = some t → args[j]? = some v → Value.okWide Tryd.prog W .any base t v) →
      DataW.TrodAll enc Tryd.prog W 0 (fun _ => true) true fn.params.toList args.toList ds p →
      Calls Tryd.prog f args W fun e W' => e = .returned (.bool true) ∧ Grows W W') :
    ReturnsInHanded {} Tryd.checked os f .any (s.pre6 enc Tryd.prog fn [] false) (s.post enc Tryd.prog fn false true false false) := by
  refine returnsInHanded_of_change (C := Tryd.checked) Tryd.own started noInit hfn witness ?_
  intro W base args ds gs before hval hW _ _
  have hlt := hW.lt
  have hW' := hW
  obtain ⟨p, q, hA, hV, rfl, hfz, hnd⟩ := hW
  have hq : gs = [] ∧ q = [] := by
    rw [hvars] at hV
    cases gs with
    | nil => exact ⟨rfl, hV⟩
    | cons _ _ => exact hV.elim
  obtain ⟨rfl, rfl⟩ := hq
  have hlen : ds.length = fn.params.size := by
    have : ∀ {ts : List TypeId} {vs : List Value} {ds : List (DataW H)} {ps : List MemPlace}, DataW.TrodAll enc Tryd.prog W 0 (fun _ => true) true ts vs ds ps → ds.length = ts.length := by
      intro ts
      induction ts with
      | nil => intro vs ds ps h; cases vs <;> cases ds <;> first | rfl | exact h.elim
      | cons t ts ih =>
        intro vs ds ps h
        cases vs with
        | nil => exact h.elim
        | cons v vs =>
          cases ds with
          | nil => exact h.elim
          | cons d ds => obtain ⟨_, _, _, h2, _⟩ := h; simp [ih h2]
    have := this hA
    simpa using this
  have hsp := hs ds hlen
  refine (contract W base args ds p hval hA).mono fun e W' ⟨he, hg⟩ => ?_
  have hb := hg.below
  refine ⟨_, he, ?_⟩
  have hfn0 : s.fn H (ds ++ []) = { results := [.lit (.bool true)], args := ds } := by rw [List.append_nil]; exact hsp
  have hR : ∀ (b : Nat) (sp : Nat → Bool) (hd : Bool), DataW.TrodAll enc Tryd.prog W' b sp hd fn.resultTypes.toList ((Value.bool true).resultList fn.resultTypes.size) (s.fn H (ds ++ [])).results [] := by
    intro b sp hd
    rw [hfn0, hres]
    exact trodAll_mk1 (shut_bool Tryd.underlying4 true)
  have hargs : ∀ sp : Nat → Bool, (∀ x ∈ p ++ [], sp x.block = true) → DataW.TrodAll enc Tryd.prog W' 0 sp true fn.params.toList args.toList (s.fn H (ds ++ [])).args p := by
    intro sp h
    rw [hfn0]
    exact trodAll_stays hb _ hpar hA (fun x hx => hlt x (by simp [hx])) (fun x hx => h x (by simp [hx]))
  have hvs : ∀ sp : Nat → Bool, DataW.TrodVars enc Tryd.prog W' sp s.vars (s.fn H (ds ++ [])).vars [] := by
    intro sp
    rw [hfn0, hvars]
    rfl
  have hold : ∀ x ∈ p ++ [], (fun b => decide (b < W.heap.size)) x.block = true := fun x hx => by simpa using hlt x hx
  refine ⟨ds, [], p ++ [], [], p, [], hW', hR _ _ _, hargs _ hold, hvs _, World.keptBut_mono (fun x hx => ⟨hx, ?_⟩) (hb.frame (· ∈ p ++ [])), fun h => by cases h⟩
  rw [List.append_nil] at hx
  exact Or.inr (by simp [hx])
end
end Go.Proofs.YtnjagecmhdagkaaDoor

/-
  Arguments of the laws, opened: arrays of numbers, slices whose elements are read one by one, lists of strings.
-/
namespace Go.Proofs.YtnjagecmhdagkaaDoor
open Go.ChangeShapes Go.WideShapes Go.ChangeAt Go.RowKit Go.Joins

set_option maxRecDepth 3000 in
theorem i64_wf {n : Int} (h : (Lit.int .i64 n).wf = true) : I64 n := by
  simp [Lit.wf, IntKind.min, IntKind.max, IntKind.bits, IntKind.signed] at h
  exact ⟨by omega, by omega⟩
set_option maxRecDepth 3000 in
theorem u8_wf {n : Int} (h : (Lit.int .u8 n).wf = true) : 0 ≤ n ∧ n ≤ 255 := by
  simp [Lit.wf, IntKind.min, IntKind.max, IntKind.bits, IntKind.signed] at h
  exact ⟨by omega, by omega⟩

section
variable {H : Type} {enc : TypeId × Value → H} {P : Program} {W : World} {base b0 : Nat} {spare : Nat → Bool} {held : Bool}
set_option maxRecDepth 3000 in
theorem add_add_addr (a : Addr) (i j : Nat) : (a.add i).add j = a.add (i + j) := by
  unfold Addr.add
  by_cases hi : i = 0 <;> by_cases hj : j = 0 <;> simp [hi, hj, Nat.add_assoc]
set_option maxRecDepth 3000 in
theorem spot_of_cell {w : World} {a : Addr} {v : Value} (h : w.cell? a = some v) : a = ⟨a.block, a.off, none⟩ := by
  obtain ⟨b, o, s⟩ := a
  unfold World.cell? at h
  split at h
  · cases s with
    | none => rfl
    | some _ => simp at h
  · cases h
set_option maxRecDepth 3000 in
theorem flatten_at {size : Nat} : ∀ (css : List (List Value)), (∀ cs ∈ css, cs.length = size) → ∀ i j, j < size → css.flatten[i * size + j]? = (css[i]?).bind (·[j]?) := by
  intro css
  induction css with
  | nil => intro _ i j _; simp
  | cons c css ih =>
    intro h i j hj
    have hc : c.length = size := h c (by simp)
    rw [List.flatten_cons]
    cases i with
    | zero => rw [Nat.zero_mul, Nat.zero_add, List.getElem?_append_left (by omega)]; simp
    | succ i =>
      rw [List.getElem?_append_right (by rw [hc, Nat.succ_mul]; omega), List.getElem?_cons_succ, ← ih (fun x hx => h x (by simp [hx])) i j hj]
      congr 1
      rw [hc, Nat.succ_mul]
      omega
set_option maxRecDepth 3000 in
theorem length_flatten {size : Nat} (css : List (List Value)) (h : ∀ cs ∈ css, cs.length = size) : css.flatten.length = css.length * size := by
  induction css with
  | nil => simp
  | cons c css ih =>
    rw [List.flatten_cons, List.length_append, ih (fun x hx => h x (by simp [hx])), h c (by simp), List.length_cons, Nat.succ_mul]
    omega
set_option maxRecDepth 3000 in
/-- A slice, element by element: the cells of each, and that they can be read. -/
theorem open_rows {t e : TypeId} {size fuel : Nat} {cs : List Value} {x : DataW H × List MemPlace} (ht : P.underlying t = some (.slice e)) (hc : P.cellsOf e = size) (hsz : 0 < size)
    (h : DataW.trod enc P W base spare held fuel t cs = some x) :
    ∃ (A : Option Addr) (n cap : Nat) (css : List (List Value)), cs = [.slice A n cap] ∧ n ≤ cap ∧ cap ≤ maxLen ∧ css.length = n ∧ (∀ c ∈ css, c.length = size ∧ ∃ m y, DataW.trod enc P W base spare held m e c = some y) ∧ Rd W size A n css.flatten := by
  rcases DataW.trod_slice ht h with ⟨rfl, _⟩ | ⟨a, len, cap, elems, rest, m, _, rfl, _, _, hl, hm, hlen, hi, _, _⟩
  · exact ⟨none, 0, 0, [], rfl, Nat.le_refl _, Nat.zero_le _, rfl, by simp, Rd.nil_⟩
  · have key : ∀ i, i < len → ∃ c : List Value, c.length = size ∧ (∃ m y, DataW.trod enc P W base spare held m e c = some y) ∧ ∀ j, j < size → W.cell? (a.add (i * size + j)) = c[j]? := by
      intro i hil
      have h1 := hi i hil
      have h2 : elems[i]? = some (elems[i]'(by omega)) := List.getElem?_eq_getElem (by omega)
      rw [h2, hc] at h1
      cases hq : W.cells? base (a.add (i * size)) size with
      | none => rw [hq] at h1; cases h1
      | some c =>
        rw [hq] at h1
        obtain ⟨_, h3, h4⟩ := World.cells?_some hq
        exact ⟨c, h3, ⟨m, _, h1⟩, fun j hj => by rw [← h4 j hj, add_add_addr]⟩
    have build : ∀ n, n ≤ len → ∃ css : List (List Value), css.length = n ∧ (∀ c ∈ css, c.length = size ∧ ∃ m y, DataW.trod enc P W base spare held m e c = some y) ∧
        ∀ i c, css[i]? = some c → ∀ j, j < size → W.cell? (a.add (i * size + j)) = c[j]? := by
      intro n
      induction n with
      | zero => intro _; exact ⟨[], rfl, by simp, by simp⟩
      | succ n ih =>
        intro hn
        obtain ⟨css, h1, h2, h3⟩ := ih (by omega)
        obtain ⟨c, h4, h5, h6⟩ := key n (by omega)
        refine ⟨css ++ [c], by simp [h1], fun x hx => ?_, fun i d hd => ?_⟩
        · rcases List.mem_append.1 hx with hx | hx
          · exact h2 x hx
          · obtain rfl : x = c := by simpa using hx
            exact ⟨h4, h5⟩
        · by_cases hin : i < css.length
          · rw [List.getElem?_append_left hin] at hd
            exact h3 i d hd
          · rw [List.getElem?_append_right (by omega)] at hd
            have hi0 : i = n := by
              by_cases e : i - css.length = 0
              · omega
              · rw [List.getElem?_eq_none (by simp; omega)] at hd; cases hd
            subst hi0
            have : d = c := by rw [h1] at hd; simpa using hd.symm
            subst this
            exact h6
    obtain ⟨css, h1, h2, h3⟩ := build len (Nat.le_refl _)
    refine ⟨some a, len, cap, css, rfl, hl, hm, h1, h2, by rw [length_flatten css (fun c hc => (h2 c hc).1), h1], fun hpos => ?_⟩
    have hc0 : css[0]? = some (css[0]'(by omega)) := List.getElem?_eq_getElem (by omega)
    have hl0 := (h2 (css[0]'(by omega)) (List.getElem_mem _)).1
    have hz := h3 0 _ hc0 0 hsz
    rw [Nat.zero_mul, Nat.zero_add, List.getElem?_eq_getElem (by omega)] at hz
    have ha : a.add 0 = a := by simp [Addr.add]
    rw [ha] at hz
    refine ⟨a.block, a.off, by rw [← spot_of_cell hz], World.block_lt_of_cell? W a hz, fun j u hu => ?_⟩
    have hjlt : j < css.length * size := by
      have := (List.getElem?_eq_some_iff.1 hu).1
      rwa [length_flatten css (fun c hc => (h2 c hc).1)] at this
    have hdiv : j / size < css.length := Nat.div_lt_of_lt_mul (by rw [Nat.mul_comm]; exact hjlt)
    have hmod : j % size < size := Nat.mod_lt _ hsz
    have hje : j = j / size * size + j % size := by rw [Nat.mul_comm]; exact (Nat.div_add_mod j size).symm
    have hcd : css[j / size]? = some (css[j / size]'hdiv) := List.getElem?_eq_getElem hdiv
    have h4 := flatten_at css (fun c hc => (h2 c hc).1) (j / size) (j % size) hmod
    rw [← hje, hu, hcd] at h4
    have h5 := h3 _ _ hcd _ hmod
    rw [← hje] at h5
    have h6 : W.cell? (a.add j) = some u := by rw [h5]; exact h4.symm
    have e : a.add j = ⟨a.block, a.off + j, none⟩ := by
      have := spot_of_cell hz
      conv => lhs; rw [this]
      exact Addr.add_mid _ _ _
    rw [← e]
    exact h6
set_option maxRecDepth 3000 in
/-- A struct of fields of one cell each, field by field. -/
theorem open_fields {e : TypeId} {fs : Array Field} {m : Nat} {cs : List Value} {y : DataW H × List MemPlace} (he : P.underlying e = some (.struct fs)) (hone : Deep.oneCellFields P fs = true) (hC : P.cellsOf e = fs.size)
    (h : DataW.trod enc P W base spare held m e cs = some y) : cs.length = fs.size ∧ ∃ n, ∀ (j : Nat) (f : Field), fs[j]? = some f → ∃ v z, cs[j]? = some v ∧ DataW.trod enc P W base spare held n f.type [v] = some z := by
  obtain ⟨xs, n, _, _, hlen, hxl, hf⟩ := DataW.trod_struct he h
  rw [hC] at hlen
  refine ⟨hlen, n, fun j f hj => ?_⟩
  obtain ⟨ho, hk⟩ := Deep.hone_of hone j f hj
  have hjl : j < fs.size := (Array.getElem?_eq_some_iff.1 hj).1
  have h1 := hf j f hj
  rw [ho, hk, List.drop_eq_getElem_cons (by omega), List.getElem?_eq_getElem (by omega)] at h1
  exact ⟨cs[j]'(by omega), _, List.getElem?_eq_getElem _, h1⟩
set_option maxRecDepth 3000 in
/-- A list of strings. -/
theorem open_strs {t e : TypeId} {fuel : Nat} {cs : List Value} {x : DataW H × List MemPlace} (ht : P.underlying t = some (.slice e)) (he : P.underlying e = some .string) (hc : P.cellsOf e = 1)
    (h : DataW.trod enc P W base spare held fuel t cs = some x) :
    ∃ (A : Option Addr) (cap : Nat) (ss : List ByteArray), cs = [.slice A ss.length cap] ∧ ss.length ≤ cap ∧ cap ≤ maxLen ∧ (∀ s ∈ ss, s.size ≤ maxLen) ∧ Rd W 1 A ss.length (ss.map Value.string) := by
  obtain ⟨A, n, cap, css, rfl, h1, h2, h3, h4, h5⟩ := open_rows ht hc (by omega) h
  have key : ∀ css : List (List Value), (∀ c ∈ css, c.length = 1 ∧ ∃ m y, DataW.trod enc P W base spare held m e c = some y) → ∃ ss : List ByteArray, ss.length = css.length ∧ css.flatten = ss.map Value.string ∧ ∀ s ∈ ss, s.size ≤ maxLen := by
    intro css
    induction css with
    | nil => intro _; exact ⟨[], rfl, rfl, by simp⟩
    | cons c css ih =>
      intro hc
      obtain ⟨ss, e1, e2, e3⟩ := ih (fun x hx => hc x (by simp [hx]))
      obtain ⟨_, m, y, hy⟩ := hc c (by simp)
      obtain ⟨s, rfl, _, hs⟩ := DataW.trod_string he hy
      refine ⟨s :: ss, by simp [e1], by simp [e2], fun x hx => ?_⟩
      rcases List.mem_cons.1 hx with rfl | hx
      · exact hs
      · exact e3 x hx
  obtain ⟨ss, e1, e2, e3⟩ := key css h4
  have hn : n = ss.length := by omega
  subst hn
  exact ⟨A, cap, ss, rfl, h1, h2, e3, by rw [← e2]; exact h5⟩
end
end Go.Proofs.YtnjagecmhdagkaaDoor

/-
  Lists of bytes that come in as arguments, opened.
-/
namespace Go.Proofs.YtnjagecmhdagkaaDoor
open Go.ChangeShapes Go.WideShapes Go.ChangeAt Go.RowKit Go.Joins

/-- A list of bytes that came in. -/
structure CameBytes (w : World) (A : Option Addr) (cap : Nat) (ns : List Int) : Prop where
  rd : Rd w 1 A ns.length (ns.map (Value.int .u8))
  nil : A = none → ns.length = 0 ∧ cap = 0
  len : ns.length ≤ 9223372036854775807
  each : ∀ n ∈ ns, 0 ≤ n ∧ n ≤ 255
set_option maxRecDepth 3000 in
theorem CameBytes.grows {w w' : World} {A : Option Addr} {cap : Nat} {ns : List Int} (h : CameBytes w A cap ns) (hg : Grows w w') : CameBytes w' A cap ns := ⟨h.1.grows hg, h.2, h.3, h.4⟩
set_option maxRecDepth 3000 in
theorem CameBytes.at_ {w : World} {A : Option Addr} {cap : Nat} {ns : List Int} (h : CameBytes w A cap ns) (k : Nat) (hk : k < ns.length) : ∃ b o, A = some ⟨b, o, none⟩ ∧ b < w.heap.size ∧ w.cell? ⟨b, o + k, none⟩ = some (.int .u8 ns[k]) := by
  obtain ⟨b, o, e, hb, hc⟩ := h.rd.at_ (j := k) (by simpa using hk)
  exact ⟨b, o, e, hb, by simpa using hc⟩
section
variable {H : Type} {enc : TypeId × Value → H} {W : World} {base b0 : Nat} {spare : Nat → Bool} {held : Bool}
set_option maxRecDepth 3000 in
theorem open_bytes {v : Value} {d : DataW H} {p : List MemPlace} (hv : Value.okWide Tryd.prog W .any b0 33 v) (h : DataW.Trod enc Tryd.prog W base spare held 33 v d p) :
    ∃ (A : Option Addr) (ns : List Int) (cap : Nat), v = .slice A ns.length cap ∧ CameBytes W A cap ns := by
  obtain ⟨a, len, cap, rfl⟩ := okWide_slice Tryd.underlying33 hv
  obtain ⟨fuel, hf⟩ := h
  obtain ⟨A, n, cap, css, hcs, h1, h2, h3, h4, h5⟩ := open_rows Tryd.underlying33 (show Tryd.prog.cellsOf 5 = 1 by kernel_rfl) (by omega) hf
  have key : ∀ css : List (List Value), (∀ c ∈ css, c.length = 1 ∧ ∃ m y, DataW.trod enc Tryd.prog W base spare held m 5 c = some y) → ∃ ns : List Int, ns.length = css.length ∧ css.flatten = ns.map (Value.int .u8) ∧ ∀ n ∈ ns, 0 ≤ n ∧ n ≤ 255 := by
    intro css
    induction css with
    | nil => intro _; exact ⟨[], rfl, rfl, by simp⟩
    | cons c css ih =>
      intro hc
      obtain ⟨ns, e1, e2, e3⟩ := ih (fun x hx => hc x (by simp [hx]))
      obtain ⟨_, m, y, hy⟩ := hc c (by simp)
      obtain ⟨s, rfl, _, hs⟩ := DataW.trod_int Tryd.underlying5 hy
      refine ⟨s :: ns, by simp [e1], by simp [e2], fun x hx => ?_⟩
      rcases List.mem_cons.1 hx with rfl | hx
      · exact u8_wf hs
      · exact e3 x hx
  obtain ⟨ns, e1, e2, e3⟩ := key css h4
  have hn : n = ns.length := by omega
  subst hn
  have hnil : a = none → ns.length = 0 ∧ cap = 0 := by
    intro ha
    rcases DataW.trod_slice Tryd.underlying33 hf with ⟨e, _⟩ | ⟨ad, _, _, _, _, _, _, e, _⟩
    · simp [Value.cells] at e hcs
      obtain ⟨rfl, rfl, rfl⟩ := hcs
      exact ⟨by simpa using e.2.1, e.2.2⟩
    · simp [Value.cells] at e
      rw [ha] at e
      cases e.1
  simp [Value.cells] at hcs
  obtain ⟨rfl, rfl, rfl⟩ := hcs
  unfold maxLen at h2
  exact ⟨a, ns, cap, rfl, ⟨by rw [← e2]; exact h5, hnil, by omega, e3⟩⟩
end
end Go.Proofs.YtnjagecmhdagkaaDoor

/-
  Chapter 10: lists of atoms that come in as arguments, opened.
-/
namespace Go.Proofs.YtnjagecmhdagkaaDoor
open Go.ChangeShapes Go.WideShapes Go.ChangeAt Go.RowKit Go.Joins

/-- An atom in memory. -/
structure Atom3 where
  c : Nat
  any : Bool
  star : Bool
def Atom3.cells (s : Atom3) : List Value := [.int .u8 (s.c : Int), .bool s.any, .bool s.star]
set_option maxRecDepth 3000 in
theorem atom_cells (L : List Atom3) : ∀ (k : Nat) (h : k < L.length), (L.flatMap Atom3.cells)[k * 3]? = some (.int .u8 (L[k].c : Int)) ∧ (L.flatMap Atom3.cells)[k * 3 + 1]? = some (.bool L[k].any) ∧ (L.flatMap Atom3.cells)[k * 3 + 2]? = some (.bool L[k].star) := by
  induction L with
  | nil => intro k h; simp at h
  | cons s L ih =>
    intro k h
    match k with
    | 0 => simp [Atom3.cells]
    | k + 1 =>
      have := ih k (by simpa using h)
      have e : (k + 1) * 3 = k * 3 + 3 := by omega
      simpa [Atom3.cells, e] using this
/-- A list of atoms that came in. -/
structure CameAtoms (w : World) (A : Option Addr) (cap : Nat) (L : List Atom3) : Prop where
  rd : Rd w 3 A L.length (L.flatMap Atom3.cells)
  len : L.length ≤ 9223372036854775807
  each : ∀ s ∈ L, s.c ≤ 255
  nil : A = none → L.length = 0 ∧ cap = 0
set_option maxRecDepth 3000 in
theorem CameAtoms.grows {w w' : World} {A : Option Addr} {cap : Nat} {L : List Atom3} (h : CameAtoms w A cap L) (hg : Grows w w') : CameAtoms w' A cap L := ⟨h.1.grows hg, h.2, h.3, h.4⟩
set_option maxRecDepth 3000 in
theorem CameAtoms.at_ {w : World} {A : Option Addr} {cap : Nat} {L : List Atom3} (h : CameAtoms w A cap L) (k : Nat) (hk : k < L.length) : ∃ b o, A = some ⟨b, o, none⟩ ∧ b < w.heap.size ∧ w.cell? ⟨b, o + k * 3, none⟩ = some (.int .u8 (L[k].c : Int)) ∧ w.cell? ⟨b, o + k * 3 + 1, none⟩ = some (.bool L[k].any) ∧ w.cell? ⟨b, o + k * 3 + 2, none⟩ = some (.bool L[k].star) := by
  obtain ⟨b, o, rfl, hb, hc⟩ := h.rd.2 (by omega)
  obtain ⟨h0, h1, h2⟩ := atom_cells L k hk
  exact ⟨b, o, rfl, hb, hc _ _ h0, by rw [Nat.add_assoc]; exact hc _ _ h1, by rw [Nat.add_assoc]; exact hc _ _ h2⟩
section
variable {H : Type} {enc : TypeId × Value → H} {W : World} {base b0 : Nat} {spare : Nat → Bool} {held : Bool}
set_option maxRecDepth 3000 in
theorem open_atom {m : Nat} {cs : List Value} {y : DataW H × List MemPlace} (h : DataW.trod enc Tryd.prog W base spare held m 69 cs = some y) : ∃ s : Atom3, cs = s.cells ∧ s.c ≤ 255 := by
  obtain ⟨hlen, n, hf⟩ := open_fields Tryd.underlying69 (by kernel_rfl) (by kernel_rfl) h
  match cs, hlen with
  | [c0, c1, c2], _ =>
    obtain ⟨x0, _, g0, h0⟩ := hf 0 _ rfl
    obtain rfl : c0 = x0 := by simpa using g0
    obtain ⟨x1, _, g1, h1⟩ := hf 1 _ rfl
    obtain rfl : c1 = x1 := by simpa using g1
    obtain ⟨x2, _, g2, h2⟩ := hf 2 _ rfl
    obtain rfl : c2 = x2 := by simpa using g2
    obtain ⟨a, q0, _, wa⟩ := DataW.trod_int Tryd.underlying5 h0
    obtain ⟨b, q1, _⟩ := DataW.trod_bool Tryd.underlying4 h1
    obtain ⟨d, q2, _⟩ := DataW.trod_bool Tryd.underlying4 h2
    simp only [List.cons.injEq, and_true] at q0 q1 q2
    have := u8_wf wa
    exact ⟨⟨a.toNat, b, d⟩, by rw [q0, q1, q2]; unfold Atom3.cells; simp only []; rw [Int.toNat_of_nonneg (by omega)], by simp only []; omega⟩
set_option maxRecDepth 3000 in
/-- A list of atoms, as cells. -/
theorem open_atoms_cell {m : Nat} {c : Value} {y : DataW H × List MemPlace} (hf : DataW.trod enc Tryd.prog W base spare held m 32 [c] = some y) :
    ∃ (A : Option Addr) (L : List Atom3) (cap : Nat), c = .slice A L.length cap ∧ CameAtoms W A cap L := by
  obtain ⟨A, n, cap, css, hcs, h1, h2, h3, h4, h5⟩ := open_rows Tryd.underlying32 (show Tryd.prog.cellsOf 69 = 3 by kernel_rfl) (by omega) hf
  have key : ∀ css : List (List Value), (∀ c ∈ css, c.length = 3 ∧ ∃ m y, DataW.trod enc Tryd.prog W base spare held m 69 c = some y) →
      ∃ L : List Atom3, L.length = css.length ∧ css.flatten = L.flatMap Atom3.cells ∧ ∀ s ∈ L, s.c ≤ 255 := by
    intro css
    induction css with
    | nil => intro _; exact ⟨[], rfl, rfl, by simp⟩
    | cons c css ih =>
      intro hc
      obtain ⟨L, e1, e2, e3⟩ := ih (fun x hx => hc x (by simp [hx]))
      obtain ⟨_, m, y, hy⟩ := hc c (by simp)
      obtain ⟨s, rfl, hs⟩ := open_atom hy
      refine ⟨s :: L, by simp [e1], by simp [e2], fun x hx => ?_⟩
      rcases List.mem_cons.1 hx with rfl | hx
      · exact hs
      · exact e3 x hx
  obtain ⟨L, e1, e2, e3⟩ := key css h4
  have hn : n = L.length := by omega
  subst hn
  have hnil : A = none → L.length = 0 ∧ cap = 0 := by
    intro ha
    rcases DataW.trod_slice Tryd.underlying32 hf with ⟨e, _⟩ | ⟨ad, _, _, _, _, _, _, e, _⟩
    · rw [e] at hcs
      simp at hcs
      exact ⟨by have := hcs.2.1; omega, hcs.2.2.symm⟩
    · rw [e] at hcs
      simp at hcs
      rw [ha] at hcs
      cases hcs.1
  simp at hcs
  unfold maxLen at h2
  exact ⟨A, L, cap, hcs, ⟨by rw [← e2]; exact h5, by omega, e3, hnil⟩⟩
set_option maxRecDepth 3000 in
theorem open_atoms {v : Value} {d : DataW H} {p : List MemPlace} (hv : Value.okWide Tryd.prog W .any b0 32 v) (h : DataW.Trod enc Tryd.prog W base spare held 32 v d p) :
    ∃ (A : Option Addr) (L : List Atom3) (cap : Nat), v = .slice A L.length cap ∧ CameAtoms W A cap L := by
  obtain ⟨a, len, cap, rfl⟩ := okWide_slice Tryd.underlying32 hv
  obtain ⟨fuel, hf⟩ := h
  simp only [Value.cells] at hf
  exact open_atoms_cell hf
end
end Go.Proofs.YtnjagecmhdagkaaDoor

/-
  Matches: letters, texts and patterns by numbers, walked.
-/
namespace Go.Proofs.YtnjagecmhdagkaaDoor
open Go.RowKit

/-- One of three letters, by a number. -/
def abc (n : Nat) : UInt8 := UInt8.ofNat (97 + n % 3)
set_option maxRecDepth 3000 in
theorem abc_nat (n : Nat) : (abc n).toNat = 97 + n % 3 := by unfold abc; simp; omega
set_option maxRecDepth 3000 in
theorem abc_plain (n : Nat) : PlainB (abc n) := by unfold PlainB; rw [abc_nat]; omega
def txtV (ns : List Int) : List UInt8 := ns.map fun n => abc n.toNat
set_option maxRecDepth 3000 in
theorem txtV_len (ns : List Int) : (txtV ns).length = ns.length := by simp [txtV]
def rowV3 (l : List Atom3) : List Atm := l.map fun x => ⟨abc x.c, x.any, x.star⟩
set_option maxRecDepth 3000 in
theorem rowV3_plain (l : List Atom3) : PlainA (rowV3 l) := by
  intro x hx
  obtain ⟨y, _, rfl⟩ := List.mem_map.1 hx
  exact abc_plain y.c
set_option maxRecDepth 3000 in
theorem rowV3_len (l : List Atom3) : (rowV3 l).length = l.length := by simp [rowV3]
set_option maxRecDepth 3000 in
theorem run_conv1 (c : UInt8) (n : Nat) (hn : n = c.toNat) (W : World) (cap : Nat) : (convert 33 9 (.slice (some ⟨W.heap.size, 0, none⟩) 1 cap)).run Tryd.prog (W.alloc (.cells #[.int .u8 (n : Nat)] 5)) = .ok (.string (tx [c])) (W.alloc (.cells #[.int .u8 (n : Nat)] 5)) := by
  have := run_convert_bytes_back (P := Tryd.prog) (W.alloc (.cells #[.int .u8 (n : Nat)] 5)) 33 9 5 ⟨W.heap.size, 0, none⟩ cap [c] Tryd.underlying33 Tryd.underlying5 Tryd.underlying9
  refine this (fun j hj => ?_)
  have : j = 0 := by simp at hj; omega
  subst this
  rw [show (⟨W.heap.size, 0, none⟩ : Addr).add 0 = ⟨W.heap.size, 0, none⟩ by unfold Addr.add; simp]
  simp [go_sem, hn]
set_option maxRecDepth 3000 in
set_option maxHeartbeats 1000000 in
theorem abc_any (n : Nat) (w : World) (hn : n ≤ 255) : Calls Tryd.prog 26 #[.int .u8 n] w fun e w' => e = .returned (.int .u8 ((97 + n % 3 : Nat) : Int)) ∧ w = w' := by
  have hm : Int.tmod (n : Int) 3 = ((n % 3 : Nat) : Int) := by rw [Int.tmod_eq_emod_of_nonneg (by omega)]; rfl
  go_enter Tryd.func26, Tryd.ntmps26
  go_wp2_with fail
  go_ret
  refine ⟨congrArg (fun z => Ending.returned (.int .u8 z)) ?_, rfl⟩
  omega
set_option maxRecDepth 100000 in
set_option maxHeartbeats 4000000 in
theorem txt_any (A : Option Addr) (cap : Nat) (ns : List Int) (w : World) (hn : CameBytes w A cap ns) (hlen : ns.length ≤ 1000) :
    Calls Tryd.prog 12 #[.slice A ns.length cap] w fun e w' => e = .returned (.string (tx (txtV ns))) ∧ Grows w w' := by
  have HN := Lib.hid hn
  clear hn
  go_enter Tryd.func12, Tryd.ntmps12
  go_wp2_with fail
  go_loopg [3, 4] ns.length (fun q v3 v4 wr => ∃ i : Nat, i ≤ ns.length ∧ q + i = ns.length ∧ v3 = .string (tx (txtV (ns.take i))) ∧ v4 = .int .i64 i ∧ Grows w wr)
  case atStart => exact ⟨0, by omega, by omega, rfl, rfl, Grows.refl _⟩
  case round =>
    obtain ⟨i, hi, hq, rfl, rfl, hg⟩ := hrel
    have HQ := Lib.hid hq
    have HG := Lib.hid hg
    clear hq hg
    by_cases hlt : i < ns.length
    · have i1 : (i : Int) < (ns.length : Int) := by omega
      obtain ⟨b, o, rfl, hb, hc⟩ := (HN.out.grows HG.out).at_ i hlt
      have he := HN.out.each _ (List.getElem_mem hlt)
      obtain ⟨z, hz⟩ : ∃ z : Nat, ns[i] = z := ⟨ns[i].toNat, by omega⟩
      rw [hz] at hc he
      have hts : txtV (ns.take (i + 1)) = txtV (ns.take i) ++ [abc z] := by
        unfold txtV
        rw [List.take_add_one, List.getElem?_eq_getElem hlt, List.map_append, hz]
        simp
      have hll : (txtV (ns.take i)).length ≤ 1000 := by rw [txtV_len, List.length_take]; omega
      have HTS := Lib.hid hts
      have hcv := run_conv1 (abc z) (97 + z % 3) (abc_nat z).symm wr 1
      have hz3 : 97 + z % 3 < 256 := by omega
      generalize hl : txtV (ns.take i) = l at *
      have hcat : tx l ++ tx [abc z] = tx (l ++ [abc z]) := tx_append _ _
      have hcall := abc_any z wr (by omega)
      clear hts hz hl
      generalize 97 + z % 3 = y at *
      obtain ⟨wx, hwx⟩ : ∃ wx, wx = wr := ⟨_, rfl⟩
      subst hwx
      go_wp2_with fail
      (with_reducible refine hcall.mono ?_)
      rintro e w1 ⟨rfl, rfl⟩
      go_wp2_with fail
      go_roundg (gk - 1)
      case measure => have := HQ.out; omega
      case rel => exact ⟨i + 1, by omega, by have := HQ.out; omega, by rw [HTS.out], by go_num, HG.out.alloc _⟩
    · have i1 : ¬(i : Int) < (ns.length : Int) := by omega
      have hti : ns.take i = ns := List.take_of_length_le (by omega)
      rw [hti]
      go_wp2_with fail
      go_ret
      exact ⟨rfl, HG.out⟩
set_option maxRecDepth 100000 in
set_option maxHeartbeats 4000000 in
theorem patT_any (A : Option Addr) (cap : Nat) (l : List Atom3) (w : World) (hn : CameAtoms w A cap l) (hlen : l.length ≤ 1000) :
    Calls Tryd.prog 14 #[.slice A l.length cap] w fun e w' => e = .returned (.string (tx (patA (rowV3 l)))) ∧ Grows w w' := by
  have HN := Lib.hid hn
  clear hn
  go_enter Tryd.func14, Tryd.ntmps14
  go_wp2_with fail
  go_loopg [3, 4] l.length (fun q v3 v4 wr => ∃ i : Nat, i ≤ l.length ∧ q + i = l.length ∧ v3 = .string (tx (patA (rowV3 (l.take i)))) ∧ v4 = .int .i64 i ∧ Grows w wr)
  case atStart => exact ⟨0, by omega, by omega, rfl, rfl, Grows.refl _⟩
  case round =>
    obtain ⟨i, hi, hq, rfl, rfl, hg⟩ := hrel
    have HQ := Lib.hid hq
    have HG := Lib.hid hg
    clear hq hg
    by_cases hlt : i < l.length
    · have i1 : (i : Int) < (l.length : Int) := by omega
      obtain ⟨b, o, rfl, hb, hc0, hc1, hc2⟩ := (HN.out.grows HG.out).at_ i hlt
      have he := HN.out.each _ (List.getElem_mem hlt)
      have hts : patA (rowV3 (l.take (i + 1))) = patA (rowV3 (l.take i)) ++ oneA ⟨abc l[i].c, l[i].any, l[i].star⟩ := by
        unfold rowV3
        rw [List.take_add_one, List.getElem?_eq_getElem hlt, List.map_append, patA_app]
        simp [patA]
      have hll : (patA (rowV3 (l.take i))).length ≤ 2000 := by have := patA_len (rowV3 (l.take i)); rw [rowV3_len, List.length_take] at this; omega
      have HTS := Lib.hid hts
      clear hts
      generalize l[i] = x at *
      obtain ⟨c, any, star⟩ := x
      simp only [] at hc0 hc1 hc2 he HTS
      generalize hl : patA (rowV3 (l.take i)) = u at *
      clear hl
      obtain ⟨wx, hwx⟩ : ∃ wx, wx = wr := ⟨_, rfl⟩
      subst hwx
      cases any with
      | true =>
        have k1 : tx u ++ (⟨#[46]⟩ : ByteArray) = tx (u ++ [46]) := tx_append _ [46]
        have k2 : tx (u ++ [46]) ++ (⟨#[42]⟩ : ByteArray) = tx (u ++ [46] ++ [42]) := tx_append _ [42]
        have l2 : (u ++ [46]).length ≤ 2001 := by simp; omega
        cases star with
        | true =>
          go_wp2_with fail
          go_roundg (gk - 1)
          case measure => have := HQ.out; omega
          case rel => exact ⟨i + 1, by omega, by have := HQ.out; omega, by rw [HTS.out]; simp [oneA], by go_num, HG.out⟩
        | false =>
          go_wp2_with fail
          go_roundg (gk - 1)
          case measure => have := HQ.out; omega
          case rel => exact ⟨i + 1, by omega, by have := HQ.out; omega, by rw [HTS.out]; simp [oneA], by go_num, HG.out⟩
      | false =>
        have hcv := run_conv1 (abc c) (97 + c % 3) (abc_nat c).symm wx 1
        have hz3 : 97 + c % 3 < 256 := by omega
        have k1 : tx u ++ tx [abc c] = tx (u ++ [abc c]) := tx_append _ _
        have k2 : tx (u ++ [abc c]) ++ (⟨#[42]⟩ : ByteArray) = tx (u ++ [abc c] ++ [42]) := tx_append _ [42]
        have l2 : (u ++ [abc c]).length ≤ 2001 := by simp; omega
        have hcall := abc_any c wx (by omega)
        have hc3 : (wx.alloc (.cells #[.int .u8 ((97 + c % 3 : Nat) : Int)] 5)).cell? ⟨b, o + i * 3 + 2, none⟩ = some (.bool star) := cellG hc2 ((Grows.refl _).alloc _)
        generalize 97 + c % 3 = y at *
        cases star with
        | true =>
          go_wp2_with fail
          (with_reducible refine hcall.mono ?_)
          rintro e w1 ⟨rfl, rfl⟩
          go_wp2_with fail
          go_roundg (gk - 1)
          case measure => have := HQ.out; omega
          case rel => exact ⟨i + 1, by omega, by have := HQ.out; omega, by rw [HTS.out]; simp [oneA], by go_num, HG.out.alloc _⟩
        | false =>
          go_wp2_with fail
          (with_reducible refine hcall.mono ?_)
          rintro e w1 ⟨rfl, rfl⟩
          go_wp2_with fail
          go_roundg (gk - 1)
          case measure => have := HQ.out; omega
          case rel => exact ⟨i + 1, by omega, by have := HQ.out; omega, by rw [HTS.out]; simp [oneA], by go_num, HG.out.alloc _⟩
    · have i1 : ¬(i : Int) < (l.length : Int) := by omega
      have hti : l.take i = l := List.take_of_length_le (by omega)
      rw [hti]
      go_wp2_with fail
      go_ret
      exact ⟨rfl, HG.out⟩
end Go.Proofs.YtnjagecmhdagkaaDoor
