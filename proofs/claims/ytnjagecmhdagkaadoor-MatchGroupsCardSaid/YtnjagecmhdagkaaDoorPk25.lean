/-
  Several texts of the proof: Own, MatN, MatM.
-/
import Derived.Test.YtnjagecmhdagkaaDoorPk13
import Derived.Test.YtnjagecmhdagkaaDoorPk02
import Derived.Deep.AppendLies
import Derived.Test.YtnjagecmhdagkaaDoorPk23
import Derived.Test.YtnjagecmhdagkaaDoorPk24
set_option linter.unusedSimpArgs false
set_option linter.unusedVariables false
/-
  Rows of one's own, of whatever elements: what a change elsewhere leaves; append of one element that lies in a block of its own.
-/
namespace Go.Proofs.YtnjagecmhdagkaaDoor
open Go.RowKit

section
variable {w w' : World} {q : Nat → Prop} {xs : List Value}
set_option maxRecDepth 3000 in
theorem own_chgX {n size b0 : Nat} {e : TypeId} {v : Value} (h : w.ownsRow b0 e size v n xs) (hc : Chg q w w') (hq : ∀ b, v.ownBlock = some b → ¬ q b) : w'.ownsRow b0 e size v n xs := by
  obtain ⟨h1, h2⟩ := h
  refine ⟨h1, h2.elim .inl ?_⟩
  rintro ⟨g, cap, cur, rfl, hb, hh, r⟩
  exact .inr ⟨g, cap, cur, rfl, hb, (hc.block g (Array.getElem?_eq_some_iff.1 hh).1 (hq g rfl)).trans hh, r⟩
set_option maxRecDepth 3000 in
theorem chg_grownX {row : Option Nat} (h : w.grownBy w' row) : Chg (fun b => row = some b) w w' :=
  ⟨h.os, h.tape, h.output, h.size, fun b hb hp => h.block b hb fun e => hp e.symm⟩
set_option maxRecDepth 3000 in
theorem own_ltX {n size b0 b : Nat} {e : TypeId} {v : Value} (h : w.ownsRow b0 e size v n xs) (hb : v.ownBlock = some b) : b < w.heap.size ∧ b0 ≤ b := by
  rcases h.2 with ⟨rfl, _⟩ | ⟨g, cap, cur, rfl, h1, hh, _⟩
  · cases hb
  · cases hb; exact ⟨(Array.getElem?_eq_some_iff.1 hh).1, h1⟩
set_option maxRecDepth 3000 in
theorem own_moreX {n size b0 : Nat} {e : TypeId} {v : Value} (h : w.ownsRow b0 e size v n xs) (hg : Grows w w') : w'.ownsRow b0 e size v n xs :=
  own_chgX h (Chg.of_grows (p := fun _ => False) hg) fun _ _ h => h
set_option maxRecDepth 3000 in
theorem own_formX {n size b0 : Nat} {e : TypeId} {v : Value} (h : w.ownsRow b0 e size v n xs) : (v = .slice none 0 0 ∧ n = 0) ∨ ∃ g cap, v = .slice (some ⟨g, 0, none⟩) n cap ∧ b0 ≤ g ∧ g < w.heap.size ∧ n ≤ cap ∧ cap ≤ 9223372036854775807 := by
  rcases h.2 with ⟨rfl, h0⟩ | ⟨g, cap, cur, rfl, h1, hh, h2, h3, _⟩
  · exact .inl ⟨rfl, h0⟩
  · exact .inr ⟨g, cap, rfl, h1, (Array.getElem?_eq_some_iff.1 hh).1, h2, h3⟩
set_option maxRecDepth 3000 in
theorem own_lenX {n size b0 : Nat} {e : TypeId} {v : Value} (h : w.ownsRow b0 e size v n xs) : xs.length = n * size := h.1
set_option maxRecDepth 3000 in
/-- What it reads as. -/
theorem own_rdX {n size b0 : Nat} {e : TypeId} {v : Value} (h : w.ownsRow b0 e size v n xs) : ∃ A cap, v = .slice A n cap ∧ n ≤ cap ∧ cap ≤ 9223372036854775807 ∧ Rd w size A n xs ∧ (A = none → n = 0 ∧ cap = 0) ∧ (∀ g o t, A = some ⟨g, o, t⟩ → o = 0 ∧ t = none ∧ b0 ≤ g ∧ g < w.heap.size ∧ v.ownBlock = some g) := by
  rcases h.2 with ⟨rfl, h0⟩ | ⟨g, cap, cur, rfl, h1, hh, h2, h3, h4⟩
  · subst h0
    exact ⟨none, 0, rfl, Nat.le_refl _, by omega, ⟨h.1, fun h => absurd h (Nat.lt_irrefl _)⟩, fun _ => ⟨rfl, rfl⟩, fun g o t e => by cases e⟩
  · have hlt := (Array.getElem?_eq_some_iff.1 hh).1
    refine ⟨some ⟨g, 0, none⟩, cap, rfl, h2, h3, ⟨h.1, fun hn => ⟨g, 0, rfl, hlt, fun j u hu => ?_⟩⟩, (fun e => by cases e), fun g' o t e => by cases e; exact ⟨rfl, rfl, h1, hlt, rfl⟩⟩
    rw [Nat.zero_add, cell_of_row w g j _ _ _ hh]
    obtain ⟨_, h5⟩ := h4
    rw [← h5] at hu
    rw [← Array.getElem?_toList]
    have hj : j < n * size := by
      have := (List.getElem?_eq_some_iff.1 hu).1
      simp at this
      omega
    rw [List.getElem?_take_of_lt hj] at hu
    exact hu
end
set_option maxRecDepth 3000 in
theorem own_ltS {w : World} {b0 size n cap e : Nat} {t : TypeId} {xs : List Value} {k : Nat} (h : w.ownsRow b0 t size (.slice (some ⟨e, 0, none⟩) k cap) n xs) : e < w.heap.size ∧ b0 ≤ e := own_ltX h rfl
set_option maxRecDepth 3000 in
theorem ownBlock_slice {e n cap b : Nat} (h : (Value.slice (some ⟨e, 0, none⟩) n cap).ownBlock = some b) : b = e := by cases h; rfl
set_option maxRecDepth 3000 in
/-- A block of cells reads as they are. -/
theorem rd_blk {w : World} {g n size : Nat} {c : Array Value} (hb : blk w g = c) (hc : c.size = n * size) (hz : 0 < c.size) : Rd w size (some ⟨g, 0, none⟩) n c.toList :=
  ⟨by simpa using hc, fun _ => ⟨g, 0, rfl, Blk.inHeap hb hz, fun j u hu => by rw [Nat.zero_add, Blk.cell hb hz]; simpa using hu⟩⟩
/-- What the program says of an element's type. -/
structure ElemOf (P : Program) (t e : TypeId) (size bytes : Nat) : Prop where
  under : P.underlying t = some (.slice e)
  info : ∃ i z, P.info? e = some i ∧ i.zero = some z ∧ i.size = size ∧ i.bytes = bytes ∧ z.cells.size = size
  pos : 0 < size
  low : bytes ≤ 100000
set_option maxRecDepth 3000 in
theorem elemOf_of {P : Program} {t e : TypeId} {size bytes : Nat} {z : Value} (h1 : P.underlying t = some (.slice e)) (h2 : (P.info? e).map (·.bytes) = some bytes) (h3 : (P.info? e).map (·.size) = some size) (h4 : (P.info? e).map (·.zero) = some (some z)) (h5 : z.cells.size = size) (h6 : 0 < size) (h7 : bytes ≤ 100000) : ElemOf P t e size bytes := by
  refine ⟨h1, ?_, h6, h7⟩
  cases hq : P.info? e with
  | none => rw [hq] at h2; cases h2
  | some i =>
    rw [hq] at h2 h3 h4
    injection h2 with h2
    injection h3 with h3
    injection h4 with h4
    exact ⟨i, z, rfl, h4, h3, h2, h5⟩
section
variable {P : Program} {ops : Array Oper} {rest : List Oper} {o : Oper} {a : Act} {w : World} {t e : TypeId} {size bytes : Nat}
set_option maxRecDepth 3000 in
theorem news_blk {kb : Nat} {c : Array Value} (hb : blk w kb = c) (hz : 0 < c.size) : ∀ j u, c.toList[j]? = some u → w.cell? ((⟨kb, 0, none⟩ : Addr).add j) = some u := fun j u hj => by
  have hadd : (⟨kb, 0, none⟩ : Addr).add j = ⟨kb, j, none⟩ := by unfold Addr.add; split <;> simp_all
  rw [hadd, Blk.cell hb hz]
  simpa using hj
set_option maxRecDepth 3000 in
theorem one_blk {c : Array Value} (h1 : OneCells c) : ∀ u ∈ c.toList, u.oneCell' = true := fun u hu => by
  unfold OneCells at h1
  rw [Array.all_eq_true_iff_forall_mem] at h1
  exact h1 u (by simpa using hu)
set_option maxRecDepth 3000 in
/-- append(x, y), x nil or the call's own, y in a block of its own; in a plain region. -/
theorem wpList_append_blk {Q : Exit → Act → World → Prop} (hE : ElemOf P t e size bytes) (s x : Operand) (base : Nat) (v : Value) (n : Nat) (xs : List Value) (kb : Nat) (c : Array Value)
    (hgd : o.guard = none) (ho : o.op = .call { callee := .builtin .append, args := #[s, x], argTypes := #[t, t] })
    (hs : a.eval s = v) (hown : w.ownsRow base e size v n xs) (hx : a.eval x = .slice (some ⟨kb, 0, none⟩) 1 1) (hb : blk w kb = c) (hc : c.size = size) (h1 : OneCells c) (hn : n ≤ 1000000) (hbase : base ≤ w.heap.size)
    (h : ∀ e' cap w', w'.ownsRow base e size (.slice (some ⟨e', 0, none⟩) (n + 1) cap) (n + 1) (xs ++ c.toList) → Chg (fun b => v.ownBlock = some b) w w' → (v.ownBlock = some e' ∨ w.heap.size ≤ e') → wpList P ops Q rest (a.put o.dst (.slice (some ⟨e', 0, none⟩) (n + 1) cap)) w') : wpList P ops Q (o :: rest) a w := by
  obtain ⟨hu, ⟨i, z, hi, hz0, hz1, hz2, hz3⟩, hp, hlow⟩ := hE
  exact wpList_append_lies w hgd s x t ho base e i z size bytes hu hi hz0 hz1 hz2 hz3 hp v n xs hs hown ⟨kb, 0, none⟩ 1 1 c.toList hx (by simp [hc]) (news_blk hb (by omega)) (one_blk h1) (by decide) (by unfold maxLen; omega)
    (by
      have h2 : (n + 1) * bytes ≤ (n + 1) * 100000 := Nat.mul_le_mul_left _ hlow
      omega) hbase _ rfl (fun e' cap w' a1 a2 a3 _ => h e' cap w' a1 (chg_grownX a2) (a3.imp id (fun e => by omega)))
set_option maxRecDepth 3000 in
/-- .. in a region that draws its order. -/
theorem step_append_blk {K : Act → World → Prop} {Q : Exit → Act → World → Prop} {E : Prop} (hE : ElemOf P t e size bytes) (s x : Operand) (base : Nat) (v : Value) (n : Nat) (xs : List Value) (kb : Nat) (c : Array Value)
    (hgd : o.guard = none) (ho : o.op = .call { callee := .builtin .append, args := #[s, x], argTypes := #[t, t] })
    (hs : a.eval s = v) (hown : w.ownsRow base e size v n xs) (hx : a.eval x = .slice (some ⟨kb, 0, none⟩) 1 1) (hb : blk w kb = c) (hc : c.size = size) (h1 : OneCells c) (hn : n ≤ 1000000) (hbase : base ≤ w.heap.size)
    (h : ∀ e' cap w', w'.ownsRow base e size (.slice (some ⟨e', 0, none⟩) (n + 1) cap) (n + 1) (xs ++ c.toList) → Chg (fun b => v.ownBlock = some b) w w' → (v.ownBlock = some e' ∨ w.heap.size ≤ e') → K (a.put o.dst (.slice (some ⟨e', 0, none⟩) (n + 1) cap)) w') :
    if Region.wanted o (yielded ops a.tmps) = true then Oper.wp P o a w K Q else E := by
  obtain ⟨hu, ⟨i, z, hi, hz0, hz1, hz2, hz3⟩, hp, hlow⟩ := hE
  exact step_append_lies w hgd s x t ho base e i z size bytes hu hi hz0 hz1 hz2 hz3 hp v n xs hs hown ⟨kb, 0, none⟩ 1 1 c.toList hx (by simp [hc]) (news_blk hb (by omega)) (one_blk h1) (by decide) (by unfold maxLen; omega)
    (by
      have h2 : (n + 1) * bytes ≤ (n + 1) * 100000 := Nat.mul_le_mul_left _ hlow
      omega) hbase _ rfl (fun e' cap w' a1 a2 a3 _ => h e' cap w' a1 (chg_grownX a2) (a3.imp id (fun e => by omega)))
end
end Go.Proofs.YtnjagecmhdagkaaDoor

/-
  Matches: numbered nodes in memory.
-/
namespace Go.Proofs.YtnjagecmhdagkaaDoor
open Go.RowKit

/-- A numbered node's cells: the node's own, its number, its kids. -/
def nmA (C : Array Value) (id : Int) (k : Value) : Array Value := C ++ #[.int .i64 id, k]
abbrev nmC (x : NdV) (K : Value) (id : Int) (k : Value) : Array Value := nmA (ndC x K) id k
section
variable {C : Array Value} {id : Int} {k : Value}
set_option maxRecDepth 3000 in
theorem nmA_size (h : C.size = 262) : (nmA C id k).size = 264 := by simp [nmA, h]
set_option maxRecDepth 3000 in
theorem nmC_size (x : NdV) (K : Value) (id : Int) (k : Value) : (nmC x K id k).size = 264 := nmA_size (ndA_size _ _ _ _ _ _ _)
set_option maxRecDepth 3000 in
theorem nmA_lt (h : C.size = 262) {j : Nat} (hj : j < 262) : (nmA C id k)[j]? = C[j]? := by
  unfold nmA
  rw [Array.getElem?_append_left (by omega)]
set_option maxRecDepth 3000 in
theorem nmA_262 (h : C.size = 262) : (nmA C id k)[262]? = some (.int .i64 id) := by
  unfold nmA
  rw [Array.getElem?_append_right (by omega), h]
  rfl
set_option maxRecDepth 3000 in
theorem nmA_263 (h : C.size = 262) : (nmA C id k)[263]? = some k := by
  unfold nmA
  rw [Array.getElem?_append_right (by omega), h]
  rfl
set_option maxRecDepth 3000 in
theorem nmA_set (h : C.size = 262) (k' : Value) : (nmA C id k).setIfInBounds 263 k' = nmA C id k' := by
  apply Array.ext_getElem?
  intro j
  rw [Array.getElem?_setIfInBounds, nmA_size h]
  by_cases e : 263 = j
  · subst e
    rw [if_pos rfl, if_pos (by decide), nmA_263 h]
  · rw [if_neg e]
    by_cases hj : j < 262
    · rw [nmA_lt h hj, nmA_lt h hj]
    · by_cases e2 : j = 262
      · subst e2; rw [nmA_262 h, nmA_262 h]
      · rw [Array.getElem?_eq_none (by rw [nmA_size h]; omega), Array.getElem?_eq_none (by rw [nmA_size h]; omega)]
set_option maxRecDepth 3000 in
theorem nmA_one (hC : OneCells C) (hk : k.oneCell' = true) : OneCells (nmA C id k) := by
  unfold OneCells at *
  unfold nmA
  rw [Array.all_append, hC]
  simp [Value.oneCell'] at hk ⊢
  exact hk
end
/-- A slice of cells, of elements of z cells. -/
structure SlZ (z : Nat) (ok : Nat → Prop) (w : World) (A : Option Addr) (cap n : Nat) (xs : List Value) : Prop where
  rd : Rd w z A n xs
  nil : A = none → n = 0 ∧ cap = 0
  le : n ≤ cap
  cap63 : cap ≤ 9223372036854775807
  ok : 0 < n → ∀ a, A = some a → ok a.block
section
variable {z : Nat} {ok ok2 q : Nat → Prop} {w w' : World} {A : Option Addr} {cap n : Nat} {xs : List Value}
set_option maxRecDepth 3000 in
theorem SlZ.chg (h : SlZ z ok w A cap n xs) (hc : Chg q w w') (hp : ∀ b, b < w.heap.size → ok b → ¬ q b) : SlZ z ok w' A cap n xs :=
  ⟨h.rd.chg hc fun hn a e => hp _ (by obtain ⟨b, o, e2, hb, _⟩ := h.rd.2 hn; rw [e] at e2; cases e2; exact hb) (h.ok hn a e), h.nil, h.le, h.cap63, h.ok⟩
set_option maxRecDepth 3000 in
theorem SlZ.mono (h : SlZ z ok w A cap n xs) (ho : ∀ b, b < w.heap.size → ok b → ok2 b) : SlZ z ok2 w A cap n xs :=
  ⟨h.rd, h.nil, h.le, h.cap63, fun hn a e => ho _ (by obtain ⟨b, o, e2, hb, _⟩ := h.rd.2 hn; rw [e] at e2; cases e2; exact hb) (h.ok hn a e)⟩
set_option maxRecDepth 3000 in
theorem SlZ.zero (z : Nat) (ok : Nat → Prop) (w : World) : SlZ z ok w none 0 0 [] := ⟨Rd.nil_, fun _ => ⟨rfl, rfl⟩, Nat.le_refl _, by omega, fun h => absurd h (Nat.lt_irrefl _)⟩
/-- The cells of a row of numbered nodes, from a number on. -/
def NfRow (ok : Nat → Prop) (w : World) : Fr → Nat → List Value → Prop
  | .nil, _, xs => xs = []
  | .cons x kids rest, n, xs => ∃ (KA : Option Addr) (kn kc : Nat) (A : Option Addr) (cap : Nat) (ys zs : List Value), xs = (nmC x (.slice KA kn kc) n (.slice A kids.len cap)).toList ++ zs ∧ SlZ 264 ok w A cap kids.len ys ∧ NfRow ok w kids (n + 1) ys ∧ NfRow ok w rest (n + 1 + kids.size) zs
set_option maxRecDepth 3000 in
theorem NfRow.chg (hc : Chg q w w') (hp : ∀ b, b < w.heap.size → ok b → ¬ q b) : ∀ {f : Fr} {n : Nat} {xs : List Value}, NfRow ok w f n xs → NfRow ok w' f n xs := by
  intro f
  induction f with
  | nil => exact fun h => h
  | cons x k r ihk ihr =>
    rintro n xs ⟨KA, kn, kc, A, cap, ys, zs, e, h1, h2, h3⟩
    exact ⟨KA, kn, kc, A, cap, ys, zs, e, h1.chg hc hp, ihk h2, ihr h3⟩
set_option maxRecDepth 3000 in
theorem NfRow.mono (ho : ∀ b, b < w.heap.size → ok b → ok2 b) : ∀ {f : Fr} {n : Nat} {xs : List Value}, NfRow ok w f n xs → NfRow ok2 w f n xs := by
  intro f
  induction f with
  | nil => exact fun h => h
  | cons x k r ihk ihr =>
    rintro n xs ⟨KA, kn, kc, A, cap, ys, zs, e, h1, h2, h3⟩
    exact ⟨KA, kn, kc, A, cap, ys, zs, e, h1.mono ho, ihk h2, ihr h3⟩
set_option maxRecDepth 3000 in
theorem NfRow.app {b : Fr} {ys : List Value} : ∀ {a : Fr} {n : Nat} {xs : List Value}, NfRow ok w a n xs → NfRow ok w b (n + a.size) ys → NfRow ok w (a.app b) n (xs ++ ys) := by
  intro a
  induction a with
  | nil => intro n xs h k; cases h; exact k
  | cons x k r _ ihr =>
    rintro n xs ⟨KA, kn, kc, A, cap, us, zs, e, h1, h2, h3⟩ hb
    refine ⟨KA, kn, kc, A, cap, us, zs ++ ys, by rw [e, List.append_assoc], h1, h2, ihr h3 ?_⟩
    rw [show n + 1 + k.size + r.size = n + (Fr.cons x k r).size by simp [Fr.size]; omega]
    exact hb
set_option maxRecDepth 3000 in
theorem NfRow.len : ∀ {f : Fr} {n : Nat} {xs : List Value}, NfRow ok w f n xs → xs.length = f.len * 264 := by
  intro f
  induction f with
  | nil => intro n xs h; cases h; rfl
  | cons x k r _ ihr =>
    rintro n xs ⟨KA, kn, kc, A, cap, us, zs, e, h1, h2, h3⟩
    have := ihr h3
    rw [e, List.length_append, Array.length_toList, nmC_size, this]
    simp only [Fr.len]; omega
/-- A slice of numbered nodes. -/
def NfAt (ok : Nat → Prop) (w : World) (A : Option Addr) (cap : Nat) (f : Fr) (n : Nat) : Prop := ∃ xs, SlZ 264 ok w A cap f.len xs ∧ NfRow ok w f n xs
set_option maxRecDepth 3000 in
theorem NfAt.chg {f : Fr} {m : Nat} (h : NfAt ok w A cap f m) (hc : Chg q w w') (hp : ∀ b, b < w.heap.size → ok b → ¬ q b) : NfAt ok w' A cap f m := by
  obtain ⟨xs, h1, h2⟩ := h
  exact ⟨xs, h1.chg hc hp, h2.chg hc hp⟩
set_option maxRecDepth 3000 in
theorem NfAt.mono {f : Fr} {m : Nat} (h : NfAt ok w A cap f m) (ho : ∀ b, b < w.heap.size → ok b → ok2 b) : NfAt ok2 w A cap f m := by
  obtain ⟨xs, h1, h2⟩ := h
  exact ⟨xs, h1.mono ho, h2.mono ho⟩
set_option maxRecDepth 3000 in
theorem NfAt.grows {f : Fr} {m : Nat} (h : NfAt ok w A cap f m) (hg : Grows w w') : NfAt ok w' A cap f m := h.chg (Chg.of_grows (p := fun _ => False) hg) fun _ _ _ h => h
set_option maxRecDepth 3000 in
theorem NfAt.zero (ok : Nat → Prop) (w : World) (m : Nat) : NfAt ok w none 0 .nil m := ⟨[], SlZ.zero 264 ok w, rfl⟩
end
set_option maxRecDepth 3000 in
theorem elemNm : ElemOf Tryd.prog 47 76 264 352 := elemOf_of Tryd.underlying47 (by kernel_rfl) (by kernel_rfl) (z := .agg (nmA (ndA 0 0 noSet 0 0 0 (.slice none 0 0)) 0 (.slice none 0 0))) (by kernel_rfl) (by rw [show (Value.agg (nmA (ndA 0 0 noSet 0 0 0 (.slice none 0 0)) 0 (.slice none 0 0))).cells = nmA (ndA 0 0 noSet 0 0 0 (.slice none 0 0)) 0 (.slice none 0 0) from rfl, nmA_size (ndA_size _ _ _ _ _ _ _)]) (by decide) (by decide)
set_option maxRecDepth 3000 in
theorem rowNm : RowOf Tryd.prog 76 264 := ⟨_, Tryd.underlying76, rfl, by kernel_rfl⟩
set_option maxRecDepth 3000 in
theorem zeroNm (w : World) : (zeroValue 76).run Tryd.prog w = .ok (.agg (nmA (ndA 0 0 noSet 0 0 0 (.slice none 0 0)) 0 (.slice none 0 0))) w := by kernel_rfl
def bldNm (x : Array (Nat × Value)) : Sem Value := Instr.build 76 x
set_option maxRecDepth 3000 in
theorem bldNm_eq (x : Array (Nat × Value)) : Instr.build 76 x = bldNm x := rfl
set_option maxRecDepth 3000 in
theorem bld_nm (kind byte : Int) (p : Nat → Bool) (n mn mx : Int) (k : Value) (id : Int) (w : World) : (bldNm #[(0, .agg (ndA kind byte p n mn mx k)), (1, .int .i64 id)]).run Tryd.prog w = .ok (.agg (nmA (ndA kind byte p n mn mx k) id (.slice none 0 0))) w := by kernel_rfl
section
variable (w : World) (g o : Nat) (c : Array Value)
def ldNm (x : Value) : Sem Value := Instr.loadAt 76 x
set_option maxRecDepth 3000 in
theorem ldNm_eq (x : Value) : Instr.loadAt 76 x = ldNm x := rfl
set_option maxRecDepth 3000 in
theorem loadNm : (ldNm (.pointer (some ⟨g, o, none⟩))).run Tryd.prog w = loadPart Tryd.prog w 76 g o 264 := rfl
set_option maxRecDepth 3000 in
theorem loadNm_if : loadPart Tryd.prog w 76 g o 264 = if 0 < 264 ∧ o + 264 ≤ (blk w g).size then .ok (.agg (span (blk w g) o 264)) w else loadPartOdd Tryd.prog w 76 g o 264 := loadPart_if w _ g o 264 rowNm
def stNm (x v : Value) : Sem Unit := Instr.storeAt 76 x v
set_option maxRecDepth 3000 in
theorem stNm_eq (x v : Value) : Instr.storeAt 76 x v = stNm x v := rfl
set_option maxRecDepth 3000 in
theorem storeNm : (stNm (.pointer (some ⟨g, o, none⟩)) (.agg c)).run Tryd.prog w = storePart Tryd.prog w 76 g o c := rfl
set_option maxRecDepth 3000 in
theorem storeNm_if (h : OneCells c) : storePart Tryd.prog w 76 g o c = if 0 < 264 ∧ o + 264 ≤ (blk w g).size ∧ c.size = 264 then .ok () (setBlk w g (over (blk w g) o c)) else storePartOdd Tryd.prog w 76 g o c := storePart_if w _ g o 264 c rowNm h
set_option maxRecDepth 3000 in
theorem loadNm_all (h : blk w g = c) (hs : c.size = 264) : loadPart Tryd.prog w 76 g 0 264 = .ok (.agg c) w := by
  rw [loadNm_if, if_pos (by rw [h]; omega), span_all (by rw [h]; exact hs), h]
end
set_option maxRecDepth 3000 in
/-- A numbered node's cells, read in one piece. -/
theorem nm_load {w : World} {b o : Nat} {c : Array Value} (hc : c.size = 264) (h : ∀ j u, c[j]? = some u → w.cell? ⟨b, o + j, none⟩ = some u) : loadPart Tryd.prog w 76 b o 264 = .ok (.agg c) w := by
  obtain ⟨d, hu, hd, hi⟩ := rowNm
  unfold loadPart
  simp only [Instr.loadAt, Instr.sureAddr, Sem.run_bind, Sem.run_pure, Result.andThen_ok]
  exact run_loadVar_cells w b o 76 c.toList d (fun j v hv => h j v (by rw [← Array.getElem?_toList]; exact hv)) hu hd (by rw [hi]; simp [hc])
end Go.Proofs.YtnjagecmhdagkaaDoor

/-
  Matches: nodes get numbers.
-/
namespace Go.Proofs.YtnjagecmhdagkaaDoor
open Go.RowKit

set_option maxRecDepth 3000 in
/-- A node's cells, read in one piece. -/
theorem nd_load {w : World} {b o : Nat} {c : Array Value} (hc : c.size = 262) (h : ∀ j u, c[j]? = some u → w.cell? ⟨b, o + j, none⟩ = some u) : loadPart Tryd.prog w 74 b o 262 = .ok (.agg c) w := by
  obtain ⟨d, hu, hd, hi⟩ := rowNode
  unfold loadPart
  simp only [Instr.loadAt, Instr.sureAddr, Sem.run_bind, Sem.run_pure, Result.andThen_ok]
  exact run_loadVar_cells w b o 74 c.toList d (fun j v hv => h j v (by rw [← Array.getElem?_toList]; exact hv)) hu hd (by rw [hi]; simp [hc])
def bldSlNm (x : Array (Nat × Value)) : Sem Value := Instr.buildSlice 47 1 x
set_option maxRecDepth 3000 in
theorem bldSlNm_eq (x : Array (Nat × Value)) : Instr.buildSlice 47 1 x = bldSlNm x := rfl
set_option maxRecDepth 3000 in
theorem bldSlNm_run (w : World) (k b : Int) (p : Nat → Bool) (n mn mx : Int) (a : Option Addr) (l d : Nat) (id : Int) (a2 : Option Addr) (l2 d2 : Nat) : (bldSlNm #[(0, .agg (nmA (ndA k b p n mn mx (.slice a l d)) id (.slice a2 l2 d2)))]).run Tryd.prog w = .ok (.slice (some ⟨w.heap.size, 0, none⟩) 1 1) (w.alloc (.cells (nmA (ndA k b p n mn mx (.slice a l d)) id (.slice a2 l2 d2)) 76)) := by kernel_rfl
set_option maxRecDepth 3000 in
theorem nm_one_slice (x : NdV) (a : Option Addr) (l d : Nat) (id : Int) (a2 : Option Addr) (l2 d2 : Nat) : OneCells (nmC x (.slice a l d) id (.slice a2 l2 d2)) := nmA_one (ndA_one_slice _ _ _ _ _ _ _ _ _) rfl
set_option maxRecDepth 3000 in
theorem over_nm (a b : Int) (p : Nat → Bool) (c d e : Int) (k : Value) (id : Int) (v : Value) (a' b' : Int) (p' : Nat → Bool) (c' d' e' : Int) (k' : Value) (id' : Int) (v' : Value) : over (nmA (ndA a b p c d e k) id v) 0 (nmA (ndA a' b' p' c' d' e' k') id' v') = nmA (ndA a' b' p' c' d' e' k') id' v' := over_all (by rw [nmA_size (ndA_size _ _ _ _ _ _ _), nmA_size (ndA_size _ _ _ _ _ _ _)])
set_option maxRecDepth 3000 in
theorem nm_size_nd (a b : Int) (p : Nat → Bool) (c d e : Int) (k : Value) (id : Int) (v : Value) : (nmA (ndA a b p c d e k) id v).size = 264 := nmA_size (ndA_size _ _ _ _ _ _ _)
set_option maxRecDepth 3000 in
theorem nm_one_nd (a b : Int) (p : Nat → Bool) (c d e : Int) (k : Option Addr) (l q : Nat) (id : Int) (a2 : Option Addr) (l2 d2 : Nat) : OneCells (nmA (ndA a b p c d e (.slice k l q)) id (.slice a2 l2 d2)) := nmA_one (ndA_one_slice _ _ _ _ _ _ _ _ _) rfl
set_option maxRecDepth 3000 in
theorem span_nm (a b : Int) (p : Nat → Bool) (c d e : Int) (k : Value) (id : Int) (v : Value) : span (nmA (ndA a b p c d e k) id v) 0 264 = nmA (ndA a b p c d e k) id v := span_all (nmA_size (ndA_size _ _ _ _ _ _ _))
/-- How things stand while nodes get numbers. -/
structure NbAt (W : World) (np : Nat) (k0 : Nat) (a : Fr) (v : Value) (xs : List Value) (w : World) : Prop where
  own : w.ownsRow W.heap.size 76 264 v a.len xs
  row : NfRow (fun b => W.heap.size ≤ b ∧ ¬ v.ownBlock = some b) w a k0 xs
  cnt : blk w np = #[.int .i64 (k0 + a.size : Nat)]
  chg : Chg (fun b => b = np) W w
set_option maxRecDepth 3000 in
theorem NbAt.start {W : World} {np k0 : Nat} (h : blk W np = #[.int .i64 k0]) : NbAt W np k0 .nil (.slice none 0 0) [] W :=
  ⟨World.ownsRow_nil _ _ _ _, rfl, by simpa [Fr.size] using h, Chg.refl _ _⟩
set_option maxRecDepth 3000 in
theorem NbAt.ret {W w : World} {np k0 : Nat} {a : Fr} {v : Value} {xs : List Value} (h : NbAt W np k0 a v xs w) : ∃ A cap, v = .slice A a.len cap ∧ NfAt (fun b => W.heap.size ≤ b) w A cap a k0 := by
  obtain ⟨A, cap, rfl, h1, h2, h3, h4, h5⟩ := own_rdX h.own
  refine ⟨A, cap, rfl, xs, ⟨h3, h4, h1, h2, fun hn a e => ?_⟩, h.row.mono fun b _ h => h.1⟩
  obtain ⟨b, o, e2, _, _⟩ := h3.2 hn
  subst e2
  cases e
  exact (h5 b o none rfl).2.2.1
set_option maxRecDepth 3000 in
theorem NbAt.push {W w w3 w9 : World} {np k0 e9 cap9 cK capk : Nat} {a kids : Fr} {x : NdV} {v : Value} {xs : List Value} {K A : Option Addr} (h : NbAt W np k0 a v xs w) (hnp : np < W.heap.size)
    (hC : Chg (fun b => b = np) w w3) (hcnt : blk w3 np = #[.int .i64 (k0 + a.size + 1 + kids.size : Nat)]) (hk : NfAt (fun b => w.heap.size ≤ b) w3 A cK kids (k0 + a.size + 1))
    (hown : w9.ownsRow W.heap.size 76 264 (.slice (some ⟨e9, 0, none⟩) (a.len + 1) cap9) (a.len + 1) (xs ++ (nmC x (.slice K kids.len capk) ((k0 : Int) + a.size) (.slice A kids.len cK)).toList))
    (hC9 : Chg (fun b => v.ownBlock = some b) w3 w9) (hl : v.ownBlock = some e9 ∨ w3.heap.size ≤ e9) :
    NbAt W np k0 (a.app (Fr.one x kids)) (.slice (some ⟨e9, 0, none⟩) (a.len + 1) cap9) (xs ++ (nmC x (.slice K kids.len capk) ((k0 : Int) + a.size) (.slice A kids.len cK)).toList) w9 := by
  have hid : ((k0 : Int) + (a.size : Int)) = ((k0 + a.size : Nat) : Int) := by omega
  rw [hid] at hown ⊢
  have hvl : ∀ b, v.ownBlock = some b → b < w.heap.size ∧ W.heap.size ≤ b := fun b hb => own_ltX h.own hb
  have hWw := h.chg.size
  have hw3 := hC.size
  have hne : ∀ b, b < w3.heap.size → ¬ v.ownBlock = some b → ¬ (Value.slice (some ⟨e9, 0, none⟩) (a.len + 1) cap9).ownBlock = some b := fun b hb h1 h2 => by
    obtain rfl : e9 = b := Option.some.inj h2
    rcases hl with h3 | h3
    · exact h1 h3
    · omega
  have hlen : (a.app (Fr.one x kids)).len = a.len + 1 := by rw [Fr.len_app]; rfl
  have hsz : (a.app (Fr.one x kids)).size = a.size + 1 + kids.size := by rw [Fr.size_app]; simp [Fr.one, Fr.size]; omega
  have inp : InHeap np w3 := Blk.inHeap hcnt (by simp)
  refine ⟨by rw [hlen]; exact hown, ?_, ?_, chg_late (h.chg.trans hC) hC9 fun b hb e => by have := hvl b e; omega⟩
  · refine NfRow.app ?_ ⟨K, kids.len, capk, A, cK, hk.choose, [], by simp, ?_, ?_, rfl⟩
    · exact (((h.row.mono (ok2 := fun b => (W.heap.size ≤ b ∧ ¬ (Value.slice (some ⟨e9, 0, none⟩) (a.len + 1) cap9).ownBlock = some b) ∧ ¬ v.ownBlock = some b) fun b hb k => ⟨⟨k.1, hne b (by omega) k.2⟩, k.2⟩).chg hC fun b _ k e => by have := k.1.1; omega).chg hC9 fun b _ k => k.2).mono fun b _ k => k.1
    · exact ((hk.choose_spec.1.mono (ok2 := fun b => (W.heap.size ≤ b ∧ ¬ (Value.slice (some ⟨e9, 0, none⟩) (a.len + 1) cap9).ownBlock = some b) ∧ ¬ v.ownBlock = some b) fun b hb k => by
        have : ¬ v.ownBlock = some b := fun e => by have := hvl b e; omega
        exact ⟨⟨by omega, hne b hb this⟩, this⟩).chg hC9 fun b _ k => k.2).mono fun b _ k => k.1
    · exact ((hk.choose_spec.2.mono (ok2 := fun b => (W.heap.size ≤ b ∧ ¬ (Value.slice (some ⟨e9, 0, none⟩) (a.len + 1) cap9).ownBlock = some b) ∧ ¬ v.ownBlock = some b) fun b hb k => by
        have : ¬ v.ownBlock = some b := fun e => by have := hvl b e; omega
        exact ⟨⟨by omega, hne b hb this⟩, this⟩).chg hC9 fun b _ k => k.2).mono fun b _ k => k.1
  · rw [chg_blk hC9 inp fun e => by have := hvl np e; omega, hcnt, hsz]
    congr 3
    omega
end Go.Proofs.YtnjagecmhdagkaaDoor
