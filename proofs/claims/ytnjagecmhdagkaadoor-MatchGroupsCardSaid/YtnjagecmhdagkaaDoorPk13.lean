/-
  Several texts of the proof: Clone, RegsMem, BreMem.
-/
import Derived.Test.YtnjagecmhdagkaaDoorPk11
import Derived.Lib.AppendZerosOnto
import Derived.Lib.Walk
import Derived.Lib.SliceRun
import Derived.Test.YtnjagecmhdagkaaDoorPk12
import Derived.Test.YtnjagecmhdagkaaDoorPk09
import Derived.Test.YtnjagecmhdagkaaDoorPk10
import Derived.Test.YtnjagecmhdagkaaDoorPk05
set_option linter.unusedSimpArgs false
set_option linter.unusedVariables false
/-
  slices.Clone at a list of strings; parts of lines in memory.
-/
namespace Go.Proofs.YtnjagecmhdagkaaDoor
open Go.RowKit

/-- New memory that holds lines. -/
def NewLines (d : List (List UInt8)) (w : World) (e : Ending) (w' : World) : Prop := ∃ v, e = .returned v ∧ w'.ownsRow w.heap.size 9 1 v d.length (lv d) ∧ Grows w w'

/-- A part of what is to be laid one behind the other. -/
structure Part where
  A : Option Addr
  cap : Nat
  d : List (List UInt8)
def Part.val (p : Part) : Value := .slice p.A p.d.length p.cap
/-- It can be read. -/
def Part.ok (w : World) (p : Part) : Prop := Rd w 1 p.A p.d.length (lv p.d) ∧ (p.A = none → p.d.length = 0 ∧ p.cap = 0)
set_option maxRecDepth 3000 in
theorem Part.grows {w w' : World} {p : Part} (h : p.ok w) (hg : Grows w w') : p.ok w' := ⟨h.1.grows hg, h.2⟩
/-- All their lines. -/
def partsL : List Part → List (List UInt8)
  | [] => []
  | p :: ps => p.d ++ partsL ps
set_option maxRecDepth 3000 in
theorem partsL_append (a b : List Part) : partsL (a ++ b) = partsL a ++ partsL b := by
  induction a with
  | nil => rfl
  | cons p a ih => simp [partsL, ih]
set_option maxRecDepth 3000 in
theorem partsL_take (ps : List Part) (k : Nat) (h : k < ps.length) : partsL (ps.take (k + 1)) = partsL (ps.take k) ++ ps[k].d := by
  rw [List.take_add_one, List.getElem?_eq_getElem h, partsL_append]
  simp [partsL]
set_option maxRecDepth 3000 in
theorem partsL_le (ps : List Part) (k : Nat) : (partsL (ps.take k)).length ≤ (partsL ps).length := by
  conv => rhs; rw [← List.take_append_drop k ps, partsL_append]
  simp

end Go.Proofs.YtnjagecmhdagkaaDoor

/-
  Registers in memory: a text's value, a map of them, and a world in which one block was written over.
-/
namespace Go.Proofs.YtnjagecmhdagkaaDoor
open Go.RowKit

/-- Some blocks may have other contents; all others stay, and there may be more. -/
structure Chg (p : Nat → Prop) (w w' : World) : Prop where
  os : w'.os = w.os
  tape : w'.tape = w.tape
  output : w'.output = w.output
  size : w.heap.size ≤ w'.heap.size
  block : ∀ b, b < w.heap.size → ¬ p b → w'.heap[b]? = w.heap[b]?
set_option maxRecDepth 3000 in
theorem Chg.of_grows {p : Nat → Prop} {w w' : World} (h : Grows w w') : Chg p w w' := by
  have := h.below
  exact ⟨this.os, this.tape, this.output, this.size, fun b hb _ => this.block b hb⟩
set_option maxRecDepth 3000 in
theorem Chg.refl (p : Nat → Prop) (w : World) : Chg p w w := Chg.of_grows (Grows.refl w)
set_option maxRecDepth 3000 in
theorem Chg.trans {p : Nat → Prop} {a b c : World} (h : Chg p a b) (k : Chg p b c) : Chg p a c :=
  ⟨k.os.trans h.os, k.tape.trans h.tape, k.output.trans h.output, Nat.le_trans h.size k.size, fun x hx hp => (k.block x (Nat.lt_of_lt_of_le hx h.size) hp).trans (h.block x hx hp)⟩
set_option maxRecDepth 3000 in
theorem Chg.mono {p q : Nat → Prop} {a b : World} (h : Chg p a b) (hpq : ∀ x, x < a.heap.size → p x → q x) : Chg q a b :=
  ⟨h.os, h.tape, h.output, h.size, fun x hx hq => h.block x hx fun hp => hq (hpq x hx hp)⟩
set_option maxRecDepth 3000 in
theorem Chg.putO {p : Nat → Prop} {w : World} {r : Nat} (h : p r) (o : Obj) : Chg p w (putO w r o) :=
  ⟨rfl, rfl, rfl, by simp [Go.Proofs.YtnjagecmhdagkaaDoor.putO], fun b _ hp => putO_ne fun e => hp (e ▸ h)⟩
set_option maxRecDepth 3000 in
theorem Chg.setCell {p : Nat → Prop} {w : World} {a : Addr} (h : p a.block) (v : Value) : Chg p w (w.setCell a v) := by
  refine ⟨rfl, rfl, rfl, by simp, fun b hb hp => ?_⟩
  have hne : a.block ≠ b := fun e => hp (e ▸ h)
  show (w.heap.modify a.block _)[b]? = w.heap[b]?
  rw [Array.getElem?_modify, if_neg hne]
set_option maxRecDepth 3000 in
theorem Chg.cell {p : Nat → Prop} {w w' : World} (h : Chg p w w') {a : Addr} (hb : a.block < w.heap.size) (hp : ¬ p a.block) : w'.cell? a = w.cell? a := World.cell?_of_block (h.block _ hb hp)
set_option maxRecDepth 3000 in
theorem Chg.frozen {p : Nat → Prop} {w w' : World} (h : Chg p w w') {a : Addr} (hb : a.block < w.heap.size) (hp : ¬ p a.block) : w'.frozen? a = w.frozen? a := World.frozen?_of_block (h.block _ hb hp)
set_option maxRecDepth 3000 in
theorem Chg.grows {n : Nat} {W w w' : World} {p : Nat → Prop} (hg : Grows W w) (h : Chg p w w') (hp : ∀ b, p b → W.heap.size ≤ b) : Grows W w' := by
  have hb := hg.below
  exact Grows.of_below ⟨h.os.trans hb.os, h.tape.trans hb.tape, h.output.trans hb.output, Nat.le_trans hb.size h.size, fun k hk => (h.block k (Nat.lt_of_lt_of_le hk hb.size) fun e => by have := hp k e; omega).trans (hb.block k hk)⟩
set_option maxRecDepth 3000 in
theorem Rd.chg {p : Nat → Prop} {w w' : World} {size n : Nat} {A : Option Addr} {xs : List Value} (h : Rd w size A n xs) (hc : Chg p w w') (hp : 0 < n → ∀ a, A = some a → ¬ p a.block) : Rd w' size A n xs :=
  ⟨h.1, fun hn => by
    obtain ⟨b, o, e, hb, hcell⟩ := h.2 hn
    have hnp := hp hn _ e
    exact ⟨b, o, e, Nat.lt_of_lt_of_le hb hc.size, fun j u hu => (hc.cell (a := ⟨b, o + j, none⟩) hb hnp).trans (hcell j u hu)⟩⟩
set_option maxRecDepth 3000 in
theorem chg_boxes {w : World} (a b a' b' : Obj) (m : More) : Chg (fun x => x = w.heap.size ∨ x = w.heap.size + 1) (more ((w.alloc a).alloc b) m) (more ((w.alloc a').alloc b') m) := by
  refine ⟨rfl, rfl, rfl, by simp [more], fun x hx hp => ?_⟩
  show (((w.heap.push a').push b') ++ m.1)[x]? = (((w.heap.push a).push b) ++ m.1)[x]?
  rcases Nat.lt_or_ge x w.heap.size with h | h
  · rw [Array.getElem?_append_left (by simp; omega), Array.getElem?_append_left (by simp; omega)]
    simp only [Array.getElem?_push, Array.size_push]
    rw [if_neg (by omega), if_neg (by omega), if_neg (by omega), if_neg (by omega)]
  · rw [Array.getElem?_append_right (by simp; omega), Array.getElem?_append_right (by simp; omega)]
    simp
set_option maxRecDepth 3000 in
theorem chg_box {w : World} (a a' : Obj) (m : More) : Chg (fun x => x = w.heap.size) (more (w.alloc a) m) (more (w.alloc a') m) := by
  refine ⟨rfl, rfl, rfl, by simp [more], fun x hx hp => ?_⟩
  show ((w.heap.push a') ++ m.1)[x]? = ((w.heap.push a) ++ m.1)[x]?
  rcases Nat.lt_or_ge x w.heap.size with h | h
  · rw [Array.getElem?_append_left (by simp; omega), Array.getElem?_append_left (by simp; omega)]
    simp only [Array.getElem?_push]
    rw [if_neg (by omega), if_neg (by omega)]
  · rw [Array.getElem?_append_right (by simp; omega), Array.getElem?_append_right (by simp; omega)]
    simp
/-- A list of lines in memory, in a block of which ok says. -/
structure LRd (ok : Nat → Prop) (w : World) (A : Option Addr) (cap : Nat) (d : List (List UInt8)) : Prop where
  rd : Rd w 1 A d.length (lv d)
  nil : A = none → d.length = 0 ∧ cap = 0
  le : d.length ≤ cap
  cap63 : cap ≤ 9223372036854775807
  ok : 0 < d.length → ∀ a, A = some a → ok a.block
set_option maxRecDepth 3000 in
theorem LRd.chg {ok p : Nat → Prop} {w w' : World} {A : Option Addr} {cap : Nat} {d : List (List UInt8)} (h : LRd ok w A cap d) (hc : Chg p w w') (hp : ∀ b, b < w.heap.size → ok b → ¬ p b) : LRd ok w' A cap d :=
  ⟨h.rd.chg hc fun hn a e => hp _ (by obtain ⟨b, o, e2, hb, _⟩ := h.rd.2 hn; rw [e] at e2; cases e2; exact hb) (h.ok hn a e), h.nil, h.le, h.cap63, h.ok⟩
set_option maxRecDepth 3000 in
theorem LRd.grows {ok : Nat → Prop} {w w' : World} {A : Option Addr} {cap : Nat} {d : List (List UInt8)} (h : LRd ok w A cap d) (hg : Grows w w') : LRd ok w' A cap d := h.chg (Chg.of_grows (p := fun _ => False) hg) fun _ _ _ h => h
set_option maxRecDepth 3000 in
theorem LRd.mono {ok ok' : Nat → Prop} {w : World} {A : Option Addr} {cap : Nat} {d : List (List UInt8)} (h : LRd ok w A cap d) (ho : ∀ b, b < w.heap.size → ok b → ok' b) : LRd ok' w A cap d :=
  ⟨h.rd, h.nil, h.le, h.cap63, fun hn a e => ho _ (by obtain ⟨b, o, e2, hb, _⟩ := h.rd.2 hn; rw [e] at e2; cases e2; exact hb) (h.ok hn a e)⟩
set_option maxRecDepth 3000 in
theorem LRd.of_own {ok : Nat → Prop} {w : World} {base : Nat} {v : Value} {d : List (List UInt8)} (h : w.ownsRow base 9 1 v d.length (lv d)) (ho : ∀ b, base ≤ b → ok b) : ∃ A cap, v = .slice A d.length cap ∧ LRd ok w A cap d := by
  obtain ⟨A, cap, rfl, h1, h2, h3, h4⟩ := own_rd' h
  refine ⟨A, cap, rfl, h3, h4, h1, h2, fun hn a e => ?_⟩
  rcases h.2 with ⟨e2, h0⟩ | ⟨g, c, cur, e2, hb, _⟩
  · omega
  · injection e2 with e3
    rw [e] at e3
    cases e3
    exact ho _ hb
/-- A register's text as a value. -/
def RVal (ok : Nat → Prop) (w : World) (v : Value) (x : Rg) : Prop := ∃ A cap, v = .agg #[.slice A x.d.length cap, .bool x.whole] ∧ LRd ok w A cap x.d
set_option maxRecDepth 3000 in
theorem RVal.chg {ok p : Nat → Prop} {w w' : World} {v : Value} {x : Rg} (h : RVal ok w v x) (hc : Chg p w w') (hp : ∀ b, b < w.heap.size → ok b → ¬ p b) : RVal ok w' v x := by
  obtain ⟨A, cap, e, h⟩ := h
  exact ⟨A, cap, e, h.chg hc hp⟩
set_option maxRecDepth 3000 in
theorem RVal.grows {ok : Nat → Prop} {w w' : World} {v : Value} {x : Rg} (h : RVal ok w v x) (hg : Grows w w') : RVal ok w' v x := by
  obtain ⟨A, cap, e, h⟩ := h
  exact ⟨A, cap, e, h.grows hg⟩
set_option maxRecDepth 3000 in
theorem RVal.zero (ok : Nat → Prop) (w : World) : RVal ok w (.agg #[.slice none 0 0, .bool false]) rg0 := ⟨none, 0, rfl, ⟨Rd.nil_, by simp [rg0], by simp [rg0], by omega, by simp [rg0]⟩⟩
set_option maxRecDepth 3000 in
theorem RVal.mono {ok ok' : Nat → Prop} {w : World} {v : Value} {x : Rg} (h : RVal ok w v x) (ho : ∀ b, b < w.heap.size → ok b → ok' b) : RVal ok' w v x := by
  obtain ⟨A, cap, e, h⟩ := h
  exact ⟨A, cap, e, h.mono ho⟩
/-- What a key has is a text's value. -/
def OptVal (ok : Nat → Prop) (w : World) : Option Value → Option Rg → Prop
  | none, none => True
  | some v, some x => RVal ok w v x
  | _, _ => False
set_option maxRecDepth 3000 in
theorem OptVal.chg {ok p : Nat → Prop} {w w' : World} {v : Option Value} {x : Option Rg} (h : OptVal ok w v x) (hc : Chg p w w') (hp : ∀ b, b < w.heap.size → ok b → ¬ p b) : OptVal ok w' v x := by
  cases v <;> cases x <;> first | exact RVal.chg h hc hp | exact h
set_option maxRecDepth 3000 in
theorem OptVal.mono {ok ok' : Nat → Prop} {w : World} {v : Option Value} {x : Option Rg} (h : OptVal ok w v x) (ho : ∀ b, b < w.heap.size → ok b → ok' b) : OptVal ok' w v x := by
  cases v <;> cases x <;> first | exact RVal.mono h ho | exact h
set_option maxRecDepth 3000 in
theorem OptVal.isSome {ok : Nat → Prop} {w : World} {v : Option Value} {x : Option Rg} (h : OptVal ok w v x) : v.isSome = x.isSome := by
  cases v <;> cases x <;> first | rfl | exact h.elim
set_option maxRecDepth 3000 in
theorem OptVal.getD {ok : Nat → Prop} {w : World} {v : Option Value} {x : Option Rg} (h : OptVal ok w v x) : RVal ok w (v.getD (.agg #[.slice none 0 0, .bool false])) (x.getD rg0) := by
  cases v <;> cases x <;> first | exact RVal.zero ok w | exact h | exact h.elim
/-- Block r is a map of texts. -/
def MapR (ok : Nat → Prop) (w : World) (r : Nat) (S : RS) : Prop := ∃ M, MapIs w r M ∧ ∀ k, OptVal ok w (M k) (S k)
set_option maxRecDepth 3000 in
theorem MapR.chg {ok p : Nat → Prop} {w w' : World} {r : Nat} {S : RS} (h : MapR ok w r S) (hc : Chg p w w') (hr : ¬ p r) (hp : ∀ b, b < w.heap.size → ok b → ¬ p b) : MapR ok w' r S := by
  obtain ⟨M, hM, hS⟩ := h
  have hrl := hM.bmap.lt
  obtain ⟨es, clk, ho, hM⟩ := hM
  exact ⟨M, ⟨es, clk, (hc.block r hrl hr).trans ho, hM⟩, fun k => (hS k).chg hc hp⟩
set_option maxRecDepth 3000 in
theorem MapR.mono {ok ok' : Nat → Prop} {w : World} {r : Nat} {S : RS} (h : MapR ok w r S) (ho : ∀ b, b < w.heap.size → ok b → ok' b) : MapR ok' w r S := by
  obtain ⟨M, hM, hS⟩ := h
  exact ⟨M, hM, fun k => (hS k).mono ho⟩
set_option maxRecDepth 3000 in
theorem MapR.grows {ok : Nat → Prop} {w w' : World} {r : Nat} {S : RS} (h : MapR ok w r S) (hg : Grows w w') : MapR ok w' r S := h.chg (Chg.of_grows (p := fun _ => False) hg) (fun h => h) fun _ _ _ h => h
set_option maxRecDepth 3000 in
theorem MapR.lt {ok : Nat → Prop} {w : World} {r : Nat} {S : RS} (h : MapR ok w r S) : r < w.heap.size := by
  obtain ⟨M, hM, hS⟩ := h
  exact hM.bmap.lt
set_option maxRecDepth 3000 in
/-- The blocks that a map's block is not: those of cells. -/
theorem LRd.ne_map {ok : Nat → Prop} {w : World} {r : Nat} {S : RS} {A : Option Addr} {cap : Nat} {d : List (List UInt8)} (h : LRd ok w A cap d) (hm : MapR ok w r S) (hn : 0 < d.length) {a : Addr} (e : A = some a) : a.block ≠ r := by
  obtain ⟨M, ⟨es, clk, ho, _⟩, hS⟩ := hm
  obtain ⟨b, o2, e2, hb, hc⟩ := h.rd.2 hn
  rw [e] at e2
  cases e2
  intro hr
  subst hr
  have h0 := hc 0 _ (List.getElem?_eq_getElem (by rw [lv_length]; exact hn))
  simp [World.cell?, ho] at h0
set_option maxRecDepth 3000 in
/-- A key's new text. -/
theorem MapR.put {ok : Nat → Prop} {w : World} {r : Nat} {S : RS} (h : MapR ok w r S) (hok : ¬ ok r) (k : Int) {v : Value} {x : Rg} (hv : RVal ok w v x) : MapR ok (putB w r k v) r (rsSet S k x) := by
  obtain ⟨M, hM, hS⟩ := h
  have hC : Chg (fun b => b = r) w (putB w r k v) := Chg.putO (p := fun b => b = r) rfl _
  have hp : ∀ b, b < w.heap.size → ok b → ¬ b = r := fun b _ h e => hok (e ▸ h)
  refine ⟨updM M k v, hM.put k v, fun j => ?_⟩
  unfold updM rsSet
  by_cases hj : j = k
  · rw [if_pos hj, if_pos hj]; exact hv.chg hC hp
  · rw [if_neg hj, if_neg hj]; exact (hS j).chg hC hp
set_option maxRecDepth 3000 in
theorem MapR.bmap {ok : Nat → Prop} {w : World} {r : Nat} {S : RS} (h : MapR ok w r S) : BMap w r := by
  obtain ⟨M, hM, hS⟩ := h
  exact hM.bmap
/-- The value of no text. -/
abbrev rz : Value := .agg #[.slice none 0 0, .bool false]
set_option maxRecDepth 3000 in
theorem MapR.val {ok : Nat → Prop} {w : World} {r : Nat} {S : RS} (h : MapR ok w r S) (k : Int) : RVal ok w (valB w r k rz) ((S k).getD rg0) := by
  obtain ⟨M, hM, hS⟩ := h
  rw [hM.val k]
  exact (hS k).getD
set_option maxRecDepth 3000 in
theorem MapR.has {ok : Nat → Prop} {w : World} {r : Nat} {S : RS} (h : MapR ok w r S) (k : Int) : hasB w r k = (S k).isSome := by
  obtain ⟨M, hM, hS⟩ := h
  rw [hM.has k]
  exact (hS k).isSome
end Go.Proofs.YtnjagecmhdagkaaDoor

/-
  Patterns in memory: a node's cells; what is built, read and written of nodes.
-/
namespace Go.Proofs.YtnjagecmhdagkaaDoor
open Go.RowKit

/-- A node's cells. -/
def ndA (kind byte : Int) (p : Nat → Bool) (n mn mx : Int) (k : Value) : Array Value := #[.int .i64 kind, .int .u8 byte] ++ SA p ++ #[.int .i64 n, .int .i64 mn, .int .i64 mx, k]
abbrev ndC (x : NdV) (k : Value) : Array Value := ndA x.kind x.byte x.set x.n x.mn x.mx k
def noSet : Nat → Bool := fun _ => false
section
variable (kind byte : Int) (p : Nat → Bool) (n mn mx : Int) (k : Value)
set_option maxRecDepth 3000 in
@[go_sem] theorem ndA_size : (ndA kind byte p n mn mx k).size = 262 := by simp [ndA]
set_option maxRecDepth 3000 in
theorem ndA_list : (ndA kind byte p n mn mx k).toList = .int .i64 kind :: .int .u8 byte :: (SA p).toList ++ [.int .i64 n, .int .i64 mn, .int .i64 mx, k] := by simp [ndA]
set_option maxRecDepth 3000 in
theorem ndA_one (h : k.oneCell' = true) : OneCells (ndA kind byte p n mn mx k) := by
  unfold OneCells
  rw [Array.all_eq_true_iff_forall_mem]
  intro v hv
  rw [← Array.mem_toList_iff, ndA_list] at hv
  have hS : ∀ v ∈ (SA p).toList, v.oneCell' = true := fun v hv => by
    have := oneCells_SA p
    unfold OneCells at this
    rw [Array.all_eq_true_iff_forall_mem] at this
    exact this v (by simpa using hv)
  simp only [List.mem_append, List.mem_cons, List.not_mem_nil, or_false] at hv
  rcases hv with (h1 | h1 | h1) | h1 | h1 | h1 | h1
  · subst h1; rfl
  · subst h1; rfl
  · exact hS v h1
  · subst h1; rfl
  · subst h1; rfl
  · subst h1; rfl
  · subst h1; exact h
set_option maxRecDepth 3000 in
theorem ndA_one_slice (a : Option Addr) (l c : Nat) : OneCells (ndA kind byte p n mn mx (.slice a l c)) := ndA_one _ _ _ _ _ _ _ rfl
set_option maxRecDepth 3000 in
theorem ndA_0 : (ndA kind byte p n mn mx k)[0]? = some (.int .i64 kind) := by rw [← Array.getElem?_toList, ndA_list]; rfl
set_option maxRecDepth 3000 in
theorem ndA_1 : (ndA kind byte p n mn mx k)[1]? = some (.int .u8 byte) := by rw [← Array.getElem?_toList, ndA_list]; rfl
set_option maxRecDepth 3000 in
theorem ndA_set (c : Nat) (h : c < 256) : (ndA kind byte p n mn mx k)[2 + c]? = some (.bool (p c)) := by
  rw [← Array.getElem?_toList, ndA_list, show 2 + c = c + 1 + 1 by omega]
  simp only [List.cons_append, List.getElem?_cons_succ]
  rw [List.getElem?_append_left (by simpa using h), Array.getElem?_toList]
  exact get_SA p c h
set_option maxRecDepth 3000 in
theorem ndA_tail (j : Nat) : (ndA kind byte p n mn mx k)[258 + j]? = [Value.int .i64 n, .int .i64 mn, .int .i64 mx, k][j]? := by
  rw [← Array.getElem?_toList, ndA_list, show 258 + j = (256 + j) + 1 + 1 by omega]
  simp only [List.cons_append, List.getElem?_cons_succ]
  rw [List.getElem?_append_right (by simp)]
  simp
set_option maxRecDepth 3000 in
theorem ndA_258 : (ndA kind byte p n mn mx k)[258]? = some (.int .i64 n) := ndA_tail _ _ _ _ _ _ _ 0
set_option maxRecDepth 3000 in
theorem ndA_259 : (ndA kind byte p n mn mx k)[259]? = some (.int .i64 mn) := ndA_tail _ _ _ _ _ _ _ 1
set_option maxRecDepth 3000 in
theorem ndA_260 : (ndA kind byte p n mn mx k)[260]? = some (.int .i64 mx) := ndA_tail _ _ _ _ _ _ _ 2
set_option maxRecDepth 3000 in
theorem ndA_261 : (ndA kind byte p n mn mx k)[261]? = some k := ndA_tail _ _ _ _ _ _ _ 3
set_option maxRecDepth 3000 in
theorem ndA_setK (k' : Value) : (ndA kind byte p n mn mx k).setIfInBounds 261 k' = ndA kind byte p n mn mx k' := by
  have e : ∀ k : Value, (ndA kind byte p n mn mx k).toList = (.int .i64 kind :: .int .u8 byte :: (SA p).toList ++ [.int .i64 n, .int .i64 mn, .int .i64 mx]) ++ [k] := fun k => by rw [ndA_list]; simp
  apply Array.toList_inj.1
  rw [Array.toList_setIfInBounds, e, e, List.set_append_right _ _ (by simp)]
  simp
end
set_option maxRecDepth 3000 in
theorem over_all {a c : Array Value} (h : a.size = c.size) : over a 0 c = c := by
  apply Array.toList_inj.1
  have h1 : a.toList.length = c.size := by simpa using h
  simp [over, List.drop_of_length_le (Nat.le_of_eq h1)]
set_option maxRecDepth 3000 in
theorem span_all {c : Array Value} {n : Nat} (h : c.size = n) : span c 0 n = c := by
  apply Array.toList_inj.1
  subst h
  simp only [span, List.drop_zero]
  exact List.take_of_length_le (by simp)
set_option maxRecDepth 3000 in
@[go_sem] theorem over_nd (a b : Int) (p : Nat → Bool) (c d e : Int) (k : Value) (a' b' : Int) (p' : Nat → Bool) (c' d' e' : Int) (k' : Value) : over (ndA a b p c d e k) 0 (ndA a' b' p' c' d' e' k') = ndA a' b' p' c' d' e' k' := over_all (by rw [ndA_size, ndA_size])
set_option maxRecDepth 3000 in
@[go_sem] theorem span_nd (a b : Int) (p : Nat → Bool) (c d e : Int) (k : Value) : span (ndA a b p c d e k) 0 262 = ndA a b p c d e k := span_all (ndA_size _ _ _ _ _ _ _)
/-! ### nodes: zero, build, load, store -/
set_option maxRecDepth 3000 in
theorem rowNode : RowOf Tryd.prog 74 262 := ⟨_, Tryd.underlying74, rfl, by kernel_rfl⟩
set_option maxRecDepth 3000 in
theorem zeroNode (w : World) : (zeroValue 74).run Tryd.prog w = .ok (.agg (ndA 0 0 noSet 0 0 0 (.slice none 0 0))) w := by kernel_rfl
def bldNd (x : Array (Nat × Value)) : Sem Value := Instr.build 74 x
set_option maxRecDepth 3000 in
theorem bldNd_eq (x : Array (Nat × Value)) : Instr.build 74 x = bldNd x := rfl
section
variable (w : World) (g o : Nat) (c : Array Value)
set_option maxRecDepth 3000 in
theorem bld_kind (k : Int) : (bldNd #[(0, .int .i64 k)]).run Tryd.prog w = .ok (.agg (ndA k 0 noSet 0 0 0 (.slice none 0 0))) w := by kernel_rfl
set_option maxRecDepth 3000 in
theorem bld_byte (k b : Int) : (bldNd #[(0, .int .i64 k), (1, .int .u8 b)]).run Tryd.prog w = .ok (.agg (ndA k b noSet 0 0 0 (.slice none 0 0))) w := by kernel_rfl
set_option maxRecDepth 3000 in
theorem bld_set (k : Int) (p : Nat → Bool) : (bldNd #[(0, .int .i64 k), (2, .agg (SA p))]).run Tryd.prog w = .ok (.agg (ndA k 0 p 0 0 0 (.slice none 0 0))) w := by kernel_rfl
set_option maxRecDepth 3000 in
theorem bld_n (k n : Int) : (bldNd #[(0, .int .i64 k), (3, .int .i64 n)]).run Tryd.prog w = .ok (.agg (ndA k 0 noSet n 0 0 (.slice none 0 0))) w := by kernel_rfl
set_option maxRecDepth 3000 in
theorem bld_star (k n : Int) (a : Option Addr) (l d : Nat) : (bldNd #[(0, .int .i64 k), (5, .int .i64 n), (6, .slice a l d)]).run Tryd.prog w = .ok (.agg (ndA k 0 noSet 0 0 n (.slice a l d))) w := by kernel_rfl
set_option maxRecDepth 3000 in
theorem bld_times (k m n : Int) (a : Option Addr) (l d : Nat) : (bldNd #[(0, .int .i64 k), (4, .int .i64 m), (5, .int .i64 n), (6, .slice a l d)]).run Tryd.prog w = .ok (.agg (ndA k 0 noSet 0 m n (.slice a l d))) w := by kernel_rfl
def ldNode (x : Value) : Sem Value := Instr.loadAt 74 x
set_option maxRecDepth 3000 in
theorem ldNode_eq (x : Value) : Instr.loadAt 74 x = ldNode x := rfl
set_option maxRecDepth 3000 in
theorem loadNode : (ldNode (.pointer (some ⟨g, o, none⟩))).run Tryd.prog w = loadPart Tryd.prog w 74 g o 262 := rfl
set_option maxRecDepth 3000 in
theorem loadNode_if : loadPart Tryd.prog w 74 g o 262 = if 0 < 262 ∧ o + 262 ≤ (blk w g).size then .ok (.agg (span (blk w g) o 262)) w else loadPartOdd Tryd.prog w 74 g o 262 := loadPart_if w _ g o 262 rowNode
def stNode (x v : Value) : Sem Unit := Instr.storeAt 74 x v
set_option maxRecDepth 3000 in
theorem stNode_eq (x v : Value) : Instr.storeAt 74 x v = stNode x v := rfl
set_option maxRecDepth 3000 in
theorem storeNode : (stNode (.pointer (some ⟨g, o, none⟩)) (.agg c)).run Tryd.prog w = storePart Tryd.prog w 74 g o c := rfl
set_option maxRecDepth 3000 in
theorem storeNode_if (h : OneCells c) : storePart Tryd.prog w 74 g o c = if 0 < 262 ∧ o + 262 ≤ (blk w g).size ∧ c.size = 262 then .ok () (setBlk w g (over (blk w g) o c)) else storePartOdd Tryd.prog w 74 g o c := storePart_if w _ g o 262 c rowNode h
set_option maxRecDepth 3000 in
theorem loadVarNode (h : (blk w g).size = 262) : (loadVar 74 ⟨g, 0, none⟩).run Tryd.prog w = .ok (.agg (blk w g)) w := by
  have h1 := loadNode_if w g 0
  rw [if_pos (by omega), span_all h] at h1
  have h2 : (Instr.loadAt 74 (.pointer (some ⟨g, 0, none⟩))).run Tryd.prog w = _ := h1
  simpa [Instr.loadAt, Instr.sureAddr] using h2
end
end Go.Proofs.YtnjagecmhdagkaaDoor
