/-
  Rows of one's own, of whatever elements: what a change elsewhere leaves; append of one element that lies in a block of its own.
-/
import Derived.Test.YtpdlmknbpggohaaDoorPk18
import Derived.Test.YtpdlmknbpggohaaDoorPk02
import Derived.Deep.AppendLies
namespace Go.Proofs.YtpdlmknbpggohaaDoor
open Go.RowKit

section
variable {w w' : World} {q : Nat → Prop} {xs : List Value}
set_option maxRecDepth 3000 in
theorem own_chgX {n size b0 : Nat} {e : TypeId} {v : Value} (h : w.ownsRow b0 e size v n xs) (hc : Chg q w w') (hq : ∀ b, v.ownBlock = some b → ¬ q b) : w'.ownsRow b0 e size v n xs := by
  obtain ⟨h1, h2⟩ := h
  refine ⟨h1, h2.elim .inl ?_⟩
  rintro ⟨g, cap, cur, rfl, hb, hh, r⟩
  exact .inr ⟨g, cap, cur, rfl, hb, (hc.block g (Array.getElem?_eq_some_iff.1 hh).1 (hq g rfl)).trans hh, r⟩
set_option maxRecDepth 3000 in
theorem chg_grownX {row : Option Nat} (h : w.grownBy w' row) : Chg (fun b => row = some b) w w' :=
  ⟨h.os, h.tape, h.output, h.size, fun b hb hp => h.block b hb fun e => hp e.symm⟩
set_option maxRecDepth 3000 in
theorem own_ltX {n size b0 b : Nat} {e : TypeId} {v : Value} (h : w.ownsRow b0 e size v n xs) (hb : v.ownBlock = some b) : b < w.heap.size ∧ b0 ≤ b := by
  rcases h.2 with ⟨rfl, _⟩ | ⟨g, cap, cur, rfl, h1, hh, _⟩
  · cases hb
  · cases hb; exact ⟨(Array.getElem?_eq_some_iff.1 hh).1, h1⟩
set_option maxRecDepth 3000 in
theorem own_moreX {n size b0 : Nat} {e : TypeId} {v : Value} (h : w.ownsRow b0 e size v n xs) (hg : Grows w w') : w'.ownsRow b0 e size v n xs :=
  own_chgX h (Chg.of_grows (p := fun _ => False) hg) fun _ _ h => h
set_option maxRecDepth 3000 in
theorem own_formX {n size b0 : Nat} {e : TypeId} {v : Value} (h : w.ownsRow b0 e size v n xs) : (v = .slice none 0 0 ∧ n = 0) ∨ ∃ g cap, v = .slice (some ⟨g, 0, none⟩) n cap ∧ b0 ≤ g ∧ g < w.heap.size ∧ n ≤ cap ∧ cap ≤ 9223372036854775807 := by
  rcases h.2 with ⟨rfl, h0⟩ | ⟨g, cap, cur, rfl, h1, hh, h2, h3, _⟩
  · exact .inl ⟨rfl, h0⟩
  · exact .inr ⟨g, cap, rfl, h1, (Array.getElem?_eq_some_iff.1 hh).1, h2, h3⟩
set_option maxRecDepth 3000 in
theorem own_lenX {n size b0 : Nat} {e : TypeId} {v : Value} (h : w.ownsRow b0 e size v n xs) : xs.length = n * size := h.1
set_option maxRecDepth 3000 in
/-- What it reads as. -/
theorem own_rdX {n size b0 : Nat} {e : TypeId} {v : Value} (h : w.ownsRow b0 e size v n xs) : ∃ A cap, v = .slice A n cap ∧ n ≤ cap ∧ cap ≤ 9223372036854775807 ∧ Rd w size A n xs ∧ (A = none → n = 0 ∧ cap = 0) ∧ (∀ g o t, A = some ⟨g, o, t⟩ → o = 0 ∧ t = none ∧ b0 ≤ g ∧ g < w.heap.size ∧ v.ownBlock = some g) := by
  rcases h.2 with ⟨rfl, h0⟩ | ⟨g, cap, cur, rfl, h1, hh, h2, h3, h4⟩
  · subst h0
    exact ⟨none, 0, rfl, Nat.le_refl _, by omega, ⟨h.1, fun h => absurd h (Nat.lt_irrefl _)⟩, fun _ => ⟨rfl, rfl⟩, fun g o t e => by cases e⟩
  · have hlt := (Array.getElem?_eq_some_iff.1 hh).1
    refine ⟨some ⟨g, 0, none⟩, cap, rfl, h2, h3, ⟨h.1, fun hn => ⟨g, 0, rfl, hlt, fun j u hu => ?_⟩⟩, (fun e => by cases e), fun g' o t e => by cases e; exact ⟨rfl, rfl, h1, hlt, rfl⟩⟩
    rw [Nat.zero_add, cell_of_row w g j _ _ _ hh]
    obtain ⟨_, h5⟩ := h4
    rw [← h5] at hu
    rw [← Array.getElem?_toList]
    have hj : j < n * size := by
      have := (List.getElem?_eq_some_iff.1 hu).1
      simp at this
      omega
    rw [List.getElem?_take_of_lt hj] at hu
    exact hu
end
set_option maxRecDepth 3000 in
theorem own_ltS {w : World} {b0 size n cap e : Nat} {t : TypeId} {xs : List Value} {k : Nat} (h : w.ownsRow b0 t size (.slice (some ⟨e, 0, none⟩) k cap) n xs) : e < w.heap.size ∧ b0 ≤ e := own_ltX h rfl
set_option maxRecDepth 3000 in
theorem ownBlock_slice {e n cap b : Nat} (h : (Value.slice (some ⟨e, 0, none⟩) n cap).ownBlock = some b) : b = e := by cases h; rfl
set_option maxRecDepth 3000 in
/-- A block of cells reads as they are. -/
theorem rd_blk {w : World} {g n size : Nat} {c : Array Value} (hb : blk w g = c) (hc : c.size = n * size) (hz : 0 < c.size) : Rd w size (some ⟨g, 0, none⟩) n c.toList :=
  ⟨by simpa using hc, fun _ => ⟨g, 0, rfl, Blk.inHeap hb hz, fun j u hu => by rw [Nat.zero_add, Blk.cell hb hz]; simpa using hu⟩⟩
/-- What the program says of an element's type. -/
structure ElemOf (P : Program) (t e : TypeId) (size bytes : Nat) : Prop where
  under : P.underlying t = some (.slice e)
  info : ∃ i z, P.info? e = some i ∧ i.zero = some z ∧ i.size = size ∧ i.bytes = bytes ∧ z.cells.size = size
  pos : 0 < size
  low : bytes ≤ 100000
set_option maxRecDepth 3000 in
theorem elemOf_of {P : Program} {t e : TypeId} {size bytes : Nat} {z : Value} (h1 : P.underlying t = some (.slice e)) (h2 : (P.info? e).map (·.bytes) = some bytes) (h3 : (P.info? e).map (·.size) = some size) (h4 : (P.info? e).map (·.zero) = some (some z)) (h5 : z.cells.size = size) (h6 : 0 < size) (h7 : bytes ≤ 100000) : ElemOf P t e size bytes := by
  refine ⟨h1, ?_, h6, h7⟩
  cases hq : P.info? e with
  | none => rw [hq] at h2; cases h2
  | some i =>
    rw [hq] at h2 h3 h4
    injection h2 with h2
    injection h3 with h3
    injection h4 with h4
    exact ⟨i, z, rfl, h4, h3, h2, h5⟩
section
variable {P : Program} {ops : Array Oper} {rest : List Oper} {o : Oper} {a : Act} {w : World} {t e : TypeId} {size bytes : Nat}
set_option maxRecDepth 3000 in
theorem news_blk {kb : Nat} {c : Array Value} (hb : blk w kb = c) (hz : 0 < c.size) : ∀ j u, c.toList[j]? = some u → w.cell? ((⟨kb, 0, none⟩ : Addr).add j) = some u := fun j u hj => by
  have hadd : (⟨kb, 0, none⟩ : Addr).add j = ⟨kb, j, none⟩ := by unfold Addr.add; split <;> simp_all
  rw [hadd, Blk.cell hb hz]
  simpa using hj
set_option maxRecDepth 3000 in
theorem one_blk {c : Array Value} (h1 : OneCells c) : ∀ u ∈ c.toList, u.oneCell' = true := fun u hu => by
  unfold OneCells at h1
  rw [Array.all_eq_true_iff_forall_mem] at h1
  exact h1 u (by simpa using hu)
set_option maxRecDepth 3000 in
/-- append(x, y), x nil or the call's own, y in a block of its own; in a plain region. -/
theorem wpList_append_blk {Q : Exit → Act → World → Prop} (hE : ElemOf P t e size bytes) (s x : Operand) (base : Nat) (v : Value) (n : Nat) (xs : List Value) (kb : Nat) (c : Array Value)
    (hgd : o.guard = none) (ho : o.op = .call { callee := .builtin .append, args := #[s, x], argTypes := #[t, t] })
    (hs : a.eval s = v) (hown : w.ownsRow base e size v n xs) (hx : a.eval x = .slice (some ⟨kb, 0, none⟩) 1 1) (hb : blk w kb = c) (hc : c.size = size) (h1 : OneCells c) (hn : n ≤ 1000000) (hbase : base ≤ w.heap.size)
    (h : ∀ e' cap w', w'.ownsRow base e size (.slice (some ⟨e', 0, none⟩) (n + 1) cap) (n + 1) (xs ++ c.toList) → Chg (fun b => v.ownBlock = some b) w w' → (v.ownBlock = some e' ∨ w.heap.size ≤ e') → wpList P ops Q rest (a.put o.dst (.slice (some ⟨e', 0, none⟩) (n + 1) cap)) w') : wpList P ops Q (o :: rest) a w := by
  obtain ⟨hu, ⟨i, z, hi, hz0, hz1, hz2, hz3⟩, hp, hlow⟩ := hE
  exact wpList_append_lies w hgd s x t ho base e i z size bytes hu hi hz0 hz1 hz2 hz3 hp v n xs hs hown ⟨kb, 0, none⟩ 1 1 c.toList hx (by simp [hc]) (news_blk hb (by omega)) (one_blk h1) (by decide) (by unfold maxLen; omega)
    (by
      have h2 : (n + 1) * bytes ≤ (n + 1) * 100000 := Nat.mul_le_mul_left _ hlow
      omega) hbase _ rfl (fun e' cap w' a1 a2 a3 _ => h e' cap w' a1 (chg_grownX a2) (a3.imp id (fun e => by omega)))
set_option maxRecDepth 3000 in
/-- .. in a region that draws its order. -/
theorem step_append_blk {K : Act → World → Prop} {Q : Exit → Act → World → Prop} {E : Prop} (hE : ElemOf P t e size bytes) (s x : Operand) (base : Nat) (v : Value) (n : Nat) (xs : List Value) (kb : Nat) (c : Array Value)
    (hgd : o.guard = none) (ho : o.op = .call { callee := .builtin .append, args := #[s, x], argTypes := #[t, t] })
    (hs : a.eval s = v) (hown : w.ownsRow base e size v n xs) (hx : a.eval x = .slice (some ⟨kb, 0, none⟩) 1 1) (hb : blk w kb = c) (hc : c.size = size) (h1 : OneCells c) (hn : n ≤ 1000000) (hbase : base ≤ w.heap.size)
    (h : ∀ e' cap w', w'.ownsRow base e size (.slice (some ⟨e', 0, none⟩) (n + 1) cap) (n + 1) (xs ++ c.toList) → Chg (fun b => v.ownBlock = some b) w w' → (v.ownBlock = some e' ∨ w.heap.size ≤ e') → K (a.put o.dst (.slice (some ⟨e', 0, none⟩) (n + 1) cap)) w') :
    if Region.wanted o (yielded ops a.tmps) = true then Oper.wp P o a w K Q else E := by
  obtain ⟨hu, ⟨i, z, hi, hz0, hz1, hz2, hz3⟩, hp, hlow⟩ := hE
  exact step_append_lies w hgd s x t ho base e i z size bytes hu hi hz0 hz1 hz2 hz3 hp v n xs hs hown ⟨kb, 0, none⟩ 1 1 c.toList hx (by simp [hc]) (news_blk hb (by omega)) (one_blk h1) (by decide) (by unfold maxLen; omega)
    (by
      have h2 : (n + 1) * bytes ≤ (n + 1) * 100000 := Nat.mul_le_mul_left _ hlow
      omega) hbase _ rfl (fun e' cap w' a1 a2 a3 _ => h e' cap w' a1 (chg_grownX a2) (a3.imp id (fun e => by omega)))
end
end Go.Proofs.YtpdlmknbpggohaaDoor
