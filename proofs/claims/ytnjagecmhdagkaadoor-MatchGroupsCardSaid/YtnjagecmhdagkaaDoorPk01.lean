/-
  Several texts of the proof: LinesPlain, Append, Tx, Bt.
-/
import Derived.Test.YtnjagecmhdagkaaDoorPk00
import Derived.Lib.IndexLaws
import Derived.Laws.AppendOwnNone
import Derived.Deep.LoopGhost
import Derived.Maps.AppendAt
import Derived.RangeFuncBox
set_option linter.unusedSimpArgs false
set_option linter.unusedVariables false
/-
  Lines, in plain words: a text's lines, lines joined.
-/
namespace Go.Proofs.YtnjagecmhdagkaaDoor

/-- A text's lines, and whether each has an end. -/
def itemsL : List UInt8 → List (List UInt8 × Bool)
  | [] => []
  | c :: s => if c = 10 then ([], true) :: itemsL s else
    match itemsL s with
    | [] => [([c], false)]
    | x :: r => (c :: x.1, x.2) :: r
set_option maxRecDepth 3000 in
theorem itemsL_cut (a b : List UInt8) (h : 10 ∉ a) : itemsL (a ++ 10 :: b) = (a, true) :: itemsL b := by
  induction a with
  | nil => simp [itemsL]
  | cons c a ih =>
    have hc : c ≠ 10 := fun e => h (by simp [e])
    have := ih (fun e => h (by simp [e]))
    simp [itemsL, hc, this]
set_option maxRecDepth 3000 in
theorem itemsL_last (a : List UInt8) (h : 10 ∉ a) (h0 : a ≠ []) : itemsL a = [(a, false)] := by
  induction a with
  | nil => exact absurd rfl h0
  | cons c a ih =>
    have hc : c ≠ 10 := fun e => h (by simp [e])
    cases a with
    | nil => simp [itemsL, hc]
    | cons d a =>
      have := ih (fun e => h (by simp [e])) (by simp)
      rw [itemsL, if_neg hc, this]
set_option maxRecDepth 3000 in
/-- Each text is empty, or has a first line with an end, or is a line without one. -/
theorem cut_cases (s : List UInt8) : 10 ∉ s ∨ ∃ a b, s = a ++ 10 :: b ∧ 10 ∉ a := by
  induction s with
  | nil => exact .inl (by simp)
  | cons c s ih =>
    by_cases hc : c = 10
    · subst hc; exact .inr ⟨[], s, rfl, by simp⟩
    · rcases ih with h | ⟨a, b, rfl, h⟩
      · exact .inl (by simp [h, Ne.symm hc])
      · exact .inr ⟨c :: a, b, rfl, by simp [h, Ne.symm hc]⟩
set_option maxRecDepth 3000 in
/-- .. going by lines. -/
theorem lines_induct {p : List UInt8 → Prop} (h0 : p []) (h1 : ∀ a, a ≠ [] → 10 ∉ a → p a) (h2 : ∀ a b, 10 ∉ a → p b → p (a ++ 10 :: b)) (s : List UInt8) : p s := by
  have : ∀ n (s : List UInt8), s.length ≤ n → p s := by
    intro n
    induction n with
    | zero => intro s h; obtain rfl := List.eq_nil_of_length_eq_zero (Nat.le_zero.1 h); exact h0
    | succ n ih =>
      intro s h
      rcases cut_cases s with hs | ⟨a, b, rfl, ha⟩
      · by_cases e : s = []
        · subst e; exact h0
        · exact h1 s e hs
      · exact h2 a b ha (ih b (by simp at h; omega))
  exact this _ s (Nat.le_refl _)
def linesL (s : List UInt8) : List (List UInt8) := (itemsL s).map (·.1)
def endedL (s : List UInt8) : Bool := ((itemsL s).getLast?.map (·.2)).getD true
set_option maxRecDepth 3000 in
theorem linesL_nil : linesL [] = [] := rfl
set_option maxRecDepth 3000 in
theorem linesL_cut (a b : List UInt8) (h : 10 ∉ a) : linesL (a ++ 10 :: b) = a :: linesL b := by simp [linesL, itemsL_cut a b h]
set_option maxRecDepth 3000 in
theorem linesL_last (a : List UInt8) (h : 10 ∉ a) (h0 : a ≠ []) : linesL a = [a] := by simp [linesL, itemsL_last a h h0]
set_option maxRecDepth 3000 in
theorem endedL_nil : endedL [] = true := rfl
set_option maxRecDepth 3000 in
theorem endedL_cut (a b : List UInt8) (h : 10 ∉ a) : endedL (a ++ 10 :: b) = endedL b := by
  unfold endedL
  rw [itemsL_cut a b h]
  cases e : itemsL b with
  | nil => rfl
  | cons x r => simp [List.getLast?_cons_cons]
set_option maxRecDepth 3000 in
theorem endedL_last (a : List UInt8) (h : 10 ∉ a) (h0 : a ≠ []) : endedL a = false := by simp [endedL, itemsL_last a h h0]
/-- Lines, each with an end. -/
def joinL : List (List UInt8) → List UInt8
  | [] => []
  | a :: r => a ++ 10 :: joinL r
set_option maxRecDepth 3000 in
theorem joinL_append (a b : List (List UInt8)) : joinL (a ++ b) = joinL a ++ joinL b := by
  induction a with
  | nil => rfl
  | cons x a ih => simp [joinL, ih]
set_option maxRecDepth 3000 in
/-- What is joined is split again. -/
theorem lines_join (l : List (List UInt8)) (h : ∀ a ∈ l, 10 ∉ a) : linesL (joinL l) = l ∧ endedL (joinL l) = true := by
  induction l with
  | nil => exact ⟨rfl, rfl⟩
  | cons a l ih =>
    obtain ⟨h1, h2⟩ := ih (fun x hx => h x (by simp [hx]))
    have ha := h a (by simp)
    exact ⟨by rw [joinL, linesL_cut _ _ ha, h1], by rw [joinL, endedL_cut _ _ ha, h2]⟩
set_option maxRecDepth 3000 in
/-- A text is its lines joined, but for the last end. -/
theorem join_lines (s : List UInt8) : joinL (linesL s) = if endedL s then s else s ++ [10] := by
  induction s using lines_induct with
  | h0 => rfl
  | h1 a h0 h => rw [linesL_last a h h0, endedL_last a h h0]; simp [joinL]
  | h2 a b h ih =>
    rw [linesL_cut a b h, endedL_cut a b h, joinL, ih]
    split <;> simp
set_option maxRecDepth 3000 in
theorem lines_whole (s : List UInt8) : ∀ a ∈ linesL s, 10 ∉ a := by
  induction s using lines_induct with
  | h0 => simp [linesL_nil]
  | h1 a h0 h => rw [linesL_last a h h0]; simpa using h
  | h2 a b h ih => rw [linesL_cut a b h]; simpa using ⟨h, ih⟩
/-- So many ends. -/
def endsL (s : List UInt8) : Nat := s.countP (· = 10)
set_option maxRecDepth 3000 in
theorem lines_many (s : List UInt8) : (linesL s).length = if endedL s then endsL s else endsL s + 1 := by
  induction s using lines_induct with
  | h0 => rfl
  | h1 a h0 h =>
    have : endsL a = 0 := by unfold endsL; rw [List.countP_eq_zero]; intro x hx; simp; rintro rfl; exact h hx
    rw [linesL_last a h h0, endedL_last a h h0, this]; rfl
  | h2 a b h ih =>
    have : endsL a = 0 := by unfold endsL; rw [List.countP_eq_zero]; intro x hx; simp; rintro rfl; exact h hx
    have e : endsL (a ++ 10 :: b) = endsL b + 1 := by
      unfold endsL at *; rw [List.countP_append, List.countP_cons, this]; simp
    rw [linesL_cut a b h, endedL_cut a b h, e, List.length_cons, ih]
    split <;> rfl
set_option maxRecDepth 3000 in
theorem lines_lastly (s : List UInt8) (h : endedL s = false) : ∃ l a, linesL s = l ++ [a] ∧ a ≠ [] := by
  induction s using lines_induct with
  | h0 => cases h
  | h1 a h0 h' => exact ⟨[], a, linesL_last a h' h0, h0⟩
  | h2 a b h' ih =>
    rw [endedL_cut a b h'] at h
    obtain ⟨l, c, e, hc⟩ := ih h
    exact ⟨a :: l, c, by rw [linesL_cut a b h', e]; rfl, hc⟩
set_option maxRecDepth 3000 in
theorem lines_parts (a b : List UInt8) (h : endedL a = true) : linesL (a ++ b) = linesL a ++ linesL b ∧ endedL (a ++ b) = endedL b := by
  induction a using lines_induct with
  | h0 => exact ⟨rfl, rfl⟩
  | h1 a h0 h' => rw [endedL_last a h' h0] at h; cases h
  | h2 a c h' ih =>
    rw [endedL_cut a c h'] at h
    obtain ⟨h1, h2⟩ := ih h
    rw [List.append_assoc, List.cons_append, linesL_cut _ _ h', linesL_cut _ _ h', endedL_cut _ _ h', h1, h2]
    exact ⟨rfl, rfl⟩
end Go.Proofs.YtnjagecmhdagkaaDoor

/-
  append(x, y...), x nil or the call's own, y any slice that reads as a list (nil too).
-/
namespace Go.Proofs.YtnjagecmhdagkaaDoor
open Go.RowKit

set_option maxRecDepth 3000 in
theorem wpList_append_rd {P : Program} (w : World) {ops : Array Oper} {rest : List Oper} {o : Oper} {a : Act} {Q : Exit → Act → World → Prop} (hgd : o.guard = none) (s x : Operand) (t : TypeId)
    (ho : o.op = .call { callee := .builtin .append, args := #[s, x], argTypes := #[t, t] })
    (base : Nat) (e : TypeId) (i : TypeInfo) (z : Value) (bytes : Nat) (ht : P.underlying t = some (.slice e)) (hi : P.info? e = some i) (hz : i.zero = some z)
    (hsize : i.size = 1) (hby : i.bytes = bytes) (hzs : z.cells.size = 1) (v : Value) (n : Nat) (xs : List Value) (hs : a.eval s = v) (hown : w.ownsRow base e 1 v n xs)
    (ao : Option Addr) (m c : Nat) (news : List Value) (hx : a.eval x = .slice ao m c) (hnil : ao = none → m = 0 ∧ c = 0) (hR : Rd w 1 ao m news) (h1 : ∀ u ∈ news, u.oneCell' = true)
    (h63 : n + m ≤ maxLen) (hbytes : (n + m) * bytes ≤ 140737488355328) (hbase : base ≤ w.heap.size)
    (h : ∀ v' w', w'.ownsRow base e 1 v' (n + m) (xs ++ news) → w.grownBy w' v.ownBlock → wpList P ops Q rest (a.put o.dst v') w') : wpList P ops Q (o :: rest) a w := by
  cases ao with
  | none =>
    obtain ⟨rfl, rfl⟩ := hnil rfl
    have hn : news = [] := List.eq_nil_of_length_eq_zero (by simpa using hR.1)
    subst hn
    exact wpList_append_own_none hgd s x t ho base e i 1 ht hi v n xs hs hown hx (h v w (by simpa using hown) ⟨rfl, rfl, rfl, Nat.le_refl _, fun _ _ _ => rfl⟩)
  | some ad =>
    refine wpList_append_own w hgd s x t ho base e i z 1 bytes ht hi hz hsize hby hzs (by decide) v n xs hs hown ad m c news hx hR.1 (fun j u hu => ?_) h1 h63 hbytes hbase (fun v' w' a1 a2 _ => h v' w' a1 a2)
    have hm : 0 < m := by
      have := hR.1
      rcases Nat.eq_zero_or_pos m with e0 | e0
      · subst e0
        rw [List.eq_nil_of_length_eq_zero (l := news) (by simpa using this)] at hu
        cases hu
      · exact e0
    obtain ⟨b, f, eq, _, hc⟩ := hR.2 hm
    injection eq with eq
    subst eq
    have hadd : (⟨b, f, none⟩ : Addr).add j = ⟨b, f + j, none⟩ := by unfold Addr.add; split <;> simp_all
    rw [hadd]
    exact hc j u hu
end Go.Proofs.YtnjagecmhdagkaaDoor

/-
  Texts of bytes and lists of lines in memory: words that need no function of the program.
-/
namespace Go.Proofs.YtnjagecmhdagkaaDoor
open Go.RowKit

/-- The value v is a list of strings, and reads as ss. -/
def Strs (w : World) (v : Value) (ss : List ByteArray) : Prop :=
  ∃ (A : Option Addr) (cap : Nat), v = .slice A ss.length cap ∧ ss.length ≤ cap ∧ cap ≤ 9223372036854775807 ∧ Rd w 1 A ss.length (ss.map Value.string)
set_option maxRecDepth 3000 in
theorem Strs.grows {w w' : World} {v : Value} {ss : List ByteArray} (h : Strs w v ss) (hg : Grows w w') : Strs w' v ss := by
  obtain ⟨A, cap, e, h1, h2, h3⟩ := h
  exact ⟨A, cap, e, h1, h2, h3.grows hg⟩
set_option maxRecDepth 3000 in
theorem Strs.below {w w' : World} {v : Value} {ss : List ByteArray} (h : Strs w v ss) (hg : Below w.heap.size w w') : Strs w' v ss := h.grows (Grows.of_below hg)
set_option maxRecDepth 3000 in
theorem Strs.nil_ (w : World) (A : Option Addr) : Strs w (.slice A 0 0) [] := ⟨A, 0, rfl, Nat.le_refl _, by omega, Rd.nil_⟩
set_option maxRecDepth 3000 in
/-- One of them. -/
theorem Rd.str {w : World} {A : Option Addr} {ss : List ByteArray} (h : Rd w 1 A ss.length (ss.map Value.string)) (k : Nat) (hk : k < ss.length) : ∃ b o, A = some ⟨b, o, none⟩ ∧ b < w.heap.size ∧ w.cell? ⟨b, o + k, none⟩ = some (.string ss[k]) := by
  obtain ⟨b, o, e, hb, hc⟩ := h.at_ (j := k) (by simpa using hk)
  exact ⟨b, o, e, hb, by simpa using hc⟩
set_option maxRecDepth 3000 in
/-- Strings that a call has laid itself. -/
theorem Strs.of_own {w : World} {base : Nat} {v : Value} {ss : List ByteArray} (h : w.ownsRow base 9 1 v ss.length (ss.map Value.string)) : Strs w v ss := by
  obtain ⟨_, h⟩ := h
  rcases h with ⟨rfl, h0⟩ | ⟨g, cap, cur, rfl, _, hg, hc, hm, hs, ht⟩
  · obtain rfl := List.eq_nil_of_length_eq_zero h0
    exact Strs.nil_ w none
  · refine ⟨some ⟨g, 0, none⟩, cap, rfl, hc, hm, by simp, fun _ => ⟨g, 0, rfl, (Array.getElem?_eq_some_iff.1 hg).1, fun j u hu => ?_⟩⟩
    rw [cell_of_row w g _ cur _ _ hg, Nat.zero_add]
    rw [← ht, List.getElem?_take] at hu
    split at hu
    · simpa using hu
    · cases hu
set_option maxRecDepth 3000 in
theorem str_eq {a b : ByteArray} (h : a = b) : (a.toList == b.toList) = true := by rw [h]; simp
set_option maxRecDepth 3000 in
theorem str_ne {a b : ByteArray} (h : a ≠ b) : (a.toList == b.toList) = false := by
  rw [beq_eq_false_iff_ne, ByteArray.toList_eq, ByteArray.toList_eq]
  exact fun e => h (WideShapes.bytes_inj e)
/-- A text of bytes. -/
def tx (l : List UInt8) : ByteArray := ⟨l.toArray⟩
set_option maxRecDepth 3000 in
theorem tx_of (s : ByteArray) : tx s.data.toList = s := by simp [tx]
set_option maxRecDepth 3000 in
@[simp] theorem tx_data (l : List UInt8) : (tx l).data.toList = l := by simp [tx]
set_option maxRecDepth 3000 in
@[simp] theorem tx_size (l : List UInt8) : (tx l).size = l.length := by simp [tx, ByteArray.size]
set_option maxRecDepth 3000 in
theorem tx_inj {a b : List UInt8} (h : tx a = tx b) : a = b := by
  have := congrArg (fun s : ByteArray => s.data.toList) h; simpa using this
set_option maxRecDepth 3000 in
theorem tx_head (a b : List UInt8) : (tx (a ++ b)).extract 0 a.length = tx a := by
  apply WideShapes.bytes_inj; simp [ByteArray.data_extract, Array.toList_extract]
set_option maxRecDepth 3000 in
theorem tx_tail (a b : List UInt8) (n m : Nat) (hn : n = a.length) (hm : m = a.length + b.length) : (tx (a ++ b)).extract n m = tx b := by
  subst hn hm
  apply WideShapes.bytes_inj; simp [ByteArray.data_extract, Array.toList_extract]
set_option maxRecDepth 3000 in
theorem index_no (l : List UInt8) (c : UInt8) (h : c ∉ l) : Lib.indexByte l c = -1 := by
  induction l with
  | nil => rfl
  | cons b l ih =>
    have hb : (b == c) = false := by simp; rintro rfl; exact h (by simp)
    have := ih (fun e => h (by simp [e]))
    simp [Lib.indexByte, hb, this]
set_option maxRecDepth 3000 in
theorem index_yes (a b : List UInt8) (c : UInt8) (h : c ∉ a) : Lib.indexByte (a ++ c :: b) c = a.length := by
  induction a with
  | nil => simp [Lib.indexByte]
  | cons d a ih =>
    have hb : (d == c) = false := by simp; rintro rfl; exact h (by simp)
    have := ih (fun e => h (by simp [e]))
    simp only [List.cons_append, Lib.indexByte, hb, this]
    simp
set_option maxRecDepth 3000 in
theorem infoStr : (Tryd.prog.info? 9).map (fun i => (i.zero, i.size, i.bytes)) = some (some (.string ⟨#[]⟩), 1, 16) := by kernel_rfl
set_option maxRecDepth 3000 in
theorem row_not {W : World} {base k : Nat} {v : Value} {xs : List Value} (hr : W.ownsRow base 9 1 v k xs) {j : Nat} {o : Obj} (ho : W.heap[j]? = some o) (hc : o.isCells = false) : some j ≠ v.ownBlock := by
  rcases hr.2 with ⟨rfl, _⟩ | ⟨g, cap, cur, rfl, _, hgb, _⟩
  · simp [Value.ownBlock]
  · intro e
    simp [Value.ownBlock] at e
    subst e
    rw [hgb] at ho
    cases ho
    cases hc
set_option maxRecDepth 3000 in
theorem row_past {W : World} {base k : Nat} {v : Value} {xs : List Value} (hr : W.ownsRow base 9 1 v k xs) {j : Nat} (hj : j < base) : some j ≠ v.ownBlock := by
  rcases hr.2 with ⟨rfl, _⟩ | ⟨g, cap, cur, rfl, hb, _⟩
  · simp [Value.ownBlock]
  · simp [Value.ownBlock]; omega
set_option maxRecDepth 3000 in
theorem own_le {w : World} {base base' n : Nat} {v : Value} {xs : List Value} (h : w.ownsRow base 9 1 v n xs) (hb : base' ≤ base) : w.ownsRow base' 9 1 v n xs :=
  ⟨h.1, h.2.elim Or.inl fun ⟨g, cap, cur, hv, hg, r⟩ => Or.inr ⟨g, cap, cur, hv, Nat.le_trans hb hg, r⟩⟩
set_option maxRecDepth 3000 in
theorem tx_mid (s : List UInt8) (f k : Nat) : (tx s).extract f k = tx ((s.drop f).take (k - f)) := by
  apply WideShapes.bytes_inj
  simp [ByteArray.data_extract, Array.toList_extract, tx]
set_option maxRecDepth 3000 in
theorem tx_get (s : List UInt8) (k : Nat) (h : k < (tx s).size) : (tx s)[k] = s[k]'(by simpa using h) := by
  simp [tx]; rfl
/-- The strings of lines. -/
def lv (d : List (List UInt8)) : List Value := (d.map tx).map Value.string
set_option maxRecDepth 3000 in
theorem lv_snoc (d : List (List UInt8)) (a : List UInt8) : lv d ++ [.string (tx a)] = lv (d ++ [a]) := by simp [lv]
set_option maxRecDepth 3000 in
theorem own_below {w W w1 : World} {k : Nat} {v : Value} {xs : List Value} {tmp : Obj} (hB : Below w.heap.size w W) (hrow : W.ownsRow w.heap.size 9 1 v k xs) (hgrow : (W.alloc tmp).grownBy w1 v.ownBlock) : Below w.heap.size w w1 :=
  (hB.alloc hB.size tmp).grown hgrow (by have := hB.size; simp; omega) (fun j hj => (hrow.lt j hj).1)
set_option maxRecDepth 3000 in
theorem lv_length (d : List (List UInt8)) : (lv d).length = d.length := by simp [lv]
set_option maxRecDepth 3000 in
theorem Rd.line {w : World} {A : Option Addr} {d : List (List UInt8)} (h : Rd w 1 A d.length (lv d)) (k : Nat) (hk : k < d.length) : ∃ b o, A = some ⟨b, o, none⟩ ∧ b < w.heap.size ∧ w.cell? ⟨b, o + k, none⟩ = some (.string (tx d[k])) := by
  obtain ⟨b, o, e, hb, hc⟩ := h.at_ (j := k) (by simpa [lv] using hk)
  exact ⟨b, o, e, hb, by simpa [lv] using hc⟩
set_option maxRecDepth 3000 in
theorem tx_append (a b : List UInt8) : tx a ++ tx b = tx (a ++ b) := by
  apply WideShapes.bytes_inj; simp [tx]
set_option maxRecDepth 3000 in
theorem append_assoc_bytes (a b c : ByteArray) : a ++ b ++ c = a ++ (b ++ c) := by
  apply WideShapes.bytes_inj; simp
set_option maxRecDepth 3000 in
theorem own_rd {w : World} {base : Nat} {v : Value} {d : List (List UInt8)} (h : w.ownsRow base 9 1 v d.length (lv d)) : ∃ A cap, v = .slice A d.length cap ∧ d.length ≤ cap ∧ cap ≤ 9223372036854775807 ∧ Rd w 1 A d.length (lv d) := by
  have := Strs.of_own (ss := d.map tx) (by simpa [lv] using h)
  obtain ⟨A, cap, e, h1, h2, h3⟩ := this
  exact ⟨A, cap, by simpa using e, by simpa using h1, h2, by simpa [lv] using h3⟩
set_option maxRecDepth 3000 in
theorem rd_new (w : World) (cs : Array Value) (t : TypeId) (n g : Nat) (hn : cs.size = n) (hg : g = w.heap.size) : Rd (w.alloc (.cells cs t)) 1 (some ⟨g, 0, none⟩) n cs.toList := by
  subst hg hn
  refine ⟨by simp, fun _ => ⟨_, 0, rfl, by simp, fun j u hu => ?_⟩⟩
  rw [cell_of_row _ _ _ cs t (0, 0) (World.alloc_heap_new _ _), Nat.zero_add]
  simpa using hu
set_option maxRecDepth 3000 in
theorem map_tx_inj : ∀ {a b : List (List UInt8)}, a.map tx = b.map tx → a = b
  | [], [], _ => rfl
  | [], _ :: _, h => by cases h
  | _ :: _, [], h => by cases h
  | x :: a, y :: b, h => by
    simp only [List.map_cons, List.cons.injEq] at h
    rw [tx_inj h.1, map_tx_inj h.2]
set_option maxRecDepth 3000 in
theorem own_grows {w w' : World} {base n : Nat} {v : Value} {xs : List Value} (h : w.ownsRow base 9 1 v n xs) (hg : Grows w w') : w'.ownsRow base 9 1 v n xs := by
  obtain ⟨h1, h2⟩ := h
  refine ⟨h1, h2.elim Or.inl ?_⟩
  rintro ⟨g, cap, cur, hv, hb, hh, r⟩
  obtain ⟨m, rfl⟩ := hg
  exact Or.inr ⟨g, cap, cur, hv, hb, by rw [heap_more w m g (Array.getElem?_eq_some_iff.1 hh).1]; exact hh, r⟩
set_option maxRecDepth 3000 in
theorem own_some {w : World} {base n ca : Nat} {A : Option Addr} {xs : List Value} (h : w.ownsRow base 9 1 (.slice A n ca) n xs) (hn : 0 < n) : ∃ g, A = some ⟨g, 0, none⟩ ∧ base ≤ g ∧ g < w.heap.size := by
  rcases h.2 with ⟨_, h0⟩ | ⟨g, cap, cur, e, hb, hh, _⟩
  · omega
  · injection e with e1 e2 e3
    exact ⟨g, e1, hb, (Array.getElem?_eq_some_iff.1 hh).1⟩
set_option maxRecDepth 3000 in
/-- An owned list: its value, nil where it has nothing. -/
theorem own_rd' {w : World} {base : Nat} {v : Value} {d : List (List UInt8)} (h : w.ownsRow base 9 1 v d.length (lv d)) : ∃ A cap, v = .slice A d.length cap ∧ d.length ≤ cap ∧ cap ≤ 9223372036854775807 ∧ Rd w 1 A d.length (lv d) ∧ (A = none → d.length = 0 ∧ cap = 0) := by
  obtain ⟨A, cap, e, h1, h2, h3⟩ := own_rd h
  refine ⟨A, cap, e, h1, h2, h3, fun hA => ?_⟩
  subst hA
  rcases h.2 with ⟨e2, h0⟩ | ⟨g, c, cur, e2, _⟩
  · rw [e] at e2; injection e2 with _ e3 e4; exact ⟨h0, e4⟩
  · rw [e] at e2; injection e2 with e3; cases e3
set_option maxRecDepth 3000 in
theorem lv_one (d : List (List UInt8)) : ∀ u ∈ lv d, u.oneCell' = true := by
  intro u hu
  simp only [lv, List.mem_map] at hu
  obtain ⟨s, _, rfl⟩ := hu
  rfl
set_option maxRecDepth 3000 in
theorem lv_append (a b : List (List UInt8)) : lv a ++ lv b = lv (a ++ b) := by simp [lv]
set_option maxRecDepth 3000 in
theorem own_first {W w1 : World} {tmp : Obj} {n cap : Nat} (hgrow : (W.alloc tmp).grownBy w1 (Value.slice (some ⟨W.heap.size, 0, none⟩) n cap).ownBlock) : Below W.heap.size W w1 :=
  ((Below.refl _ W).alloc (Nat.le_refl _) _).grown hgrow (by simp) (fun k e => by simp [Value.ownBlock] at e; omega)
set_option maxRecDepth 3000 in
theorem own_next {W w1 w2 : World} {v : Value} {n : Nat} {xs : List Value} (hb : Below W.heap.size W w1) (hown : w1.ownsRow W.heap.size 9 1 v n xs) (hgrow : w1.grownBy w2 v.ownBlock) : Below W.heap.size W w2 :=
  hb.grown hgrow hb.size (fun k e => (hown.lt k e).1)
set_option maxRecDepth 3000 in
theorem own_cap {w : World} {base g n cap : Nat} {xs : List Value} (h : w.ownsRow base 9 1 (.slice (some ⟨g, 0, none⟩) n cap) n xs) : n ≤ cap ∧ cap ≤ 9223372036854775807 := by
  rcases h.2 with ⟨e, _⟩ | ⟨g', c', cur, e, _, _, h1, h2, _⟩
  · cases e
  · injection e with _ _ e3
    subst e3
    exact ⟨h1, h2⟩
set_option maxRecDepth 3000 in
theorem rd_own {w : World} {base g n cap : Nat} {d : List (List UInt8)} (h : w.ownsRow base 9 1 (.slice (some ⟨g, 0, none⟩) n cap) n (lv d)) : Rd w 1 (some ⟨g, 0, none⟩) d.length (lv d) := by
  have hn : d.length = n := by have := h.1; simpa [lv] using this
  subst hn
  refine ⟨by simp [lv], fun _ => ⟨g, 0, rfl, (h.lt g rfl).2, fun j u hu => ?_⟩⟩
  have hj : j < d.length := by
    have := (List.getElem?_eq_some_iff.1 hu).1
    simpa [lv] using this
  rw [Nat.zero_add, h.cellAt j (by omega)]
  exact hu
set_option maxRecDepth 3000 in
theorem lv_set (d : List (List UInt8)) (i : Nat) (x : List UInt8) : (lv d).set i (.string (tx x)) = lv (d.set i x) := by
  simp [lv, List.map_set]
end Go.Proofs.YtnjagecmhdagkaaDoor

/-
  Bytes of a text by number, without a proof at hand.
-/
namespace Go.Proofs.YtnjagecmhdagkaaDoor
open Go.RowKit

/-- The byte at a place; 0 where there is none. -/
def bt (s : List UInt8) (k : Nat) : Nat := (s.getD k 0).toNat
set_option maxRecDepth 3000 in
theorem bt_lt (s : List UInt8) (k : Nat) : bt s k < 256 := by unfold bt; exact UInt8.toNat_lt _
set_option maxRecDepth 3000 in
theorem tx_bt (s : List UInt8) (k : Nat) (h : k < (tx s).size) : ((tx s)[k]'h).toNat = bt s k := by
  rw [tx_get]
  have h2 : k < s.length := by simpa using h
  simp [bt, h2]
set_option maxRecDepth 3000 in
theorem bt_drop (s : List UInt8) (n k : Nat) : bt (s.drop n) k = bt s (n + k) := by
  unfold bt; simp [List.getD_eq_getElem?_getD, List.getElem?_drop]
set_option maxRecDepth 3000 in
theorem bt_append_left (a b : List UInt8) (k : Nat) (h : k < a.length) : bt (a ++ b) k = bt a k := by
  unfold bt; simp [List.getD_eq_getElem?_getD, List.getElem?_append_left h]
set_option maxRecDepth 3000 in
theorem bt_append_right (a b : List UInt8) (k : Nat) (h : a.length ≤ k) : bt (a ++ b) k = bt b (k - a.length) := by
  unfold bt; simp [List.getD_eq_getElem?_getD, List.getElem?_append_right h]
set_option maxRecDepth 3000 in
theorem bt_get (s : List UInt8) (k : Nat) (h : k < s.length) : bt s k = s[k].toNat := by simp [bt, h]
set_option maxRecDepth 3000 in
@[simp] theorem bt_cons_zero (a : UInt8) (s : List UInt8) : bt (a :: s) 0 = a.toNat := by simp [bt]
set_option maxRecDepth 3000 in
@[simp] theorem bt_cons_succ (a : UInt8) (s : List UInt8) (k : Nat) : bt (a :: s) (k + 1) = bt s k := by simp [bt]
set_option maxRecDepth 3000 in
theorem tx_from (s : List UInt8) (k : Nat) : (tx s).extract k s.length = tx (s.drop k) := by
  rw [tx_mid]
  congr 1
  exact List.take_of_length_le (by simp)
set_option maxRecDepth 3000 in
theorem tx_nil : tx [] = ⟨#[]⟩ := rfl
set_option maxRecDepth 3000 in
/-- A code of a byte, as a byte. -/
theorem code_byte (c : UInt8) : (c.toNat : Int).toNat.toUInt8 = c := by simp
set_option maxRecDepth 3000 in
theorem bt_byte (s : List UInt8) (k : Nat) : ((bt s k : Nat) : Int).toNat.toUInt8 = s.getD k 0 := by simp [bt]
end Go.Proofs.YtnjagecmhdagkaaDoor
