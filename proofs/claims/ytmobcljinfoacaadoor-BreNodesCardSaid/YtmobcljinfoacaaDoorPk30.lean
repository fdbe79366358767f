/-
  Patterns: the open groups.
-/
import Derived.Test.YtmobcljinfoacaaDoorPk28
import Derived.Test.YtmobcljinfoacaaDoorPk29
import Derived.Deep.AppendLies
namespace Go.Proofs.YtmobcljinfoacaaDoor
open Go.RowKit

set_option maxRecDepth 3000 in
theorem infoInt : (Tryd.prog.info? 3).map (fun i => (i.zero, i.size, i.bytes)) = some (some (.int .i64 0), 1, 8) := by kernel_rfl
set_option maxRecDepth 3000 in
theorem infoInt_parts : ∃ i, Tryd.prog.info? 3 = some i ∧ i.zero = some (.int .i64 0) ∧ i.size = 1 ∧ i.bytes = 8 := by
  have h := infoInt
  cases hq : Tryd.prog.info? 3 with
  | none => rw [hq] at h; cases h
  | some i =>
    rw [hq] at h
    simp only [Option.map_some, Option.some.injEq, Prod.mk.injEq] at h
    exact ⟨i, rfl, h.1, h.2.1, h.2.2⟩
set_option maxRecDepth 3000 in
theorem chg_grown {w w' : World} {row : Option Nat} (h : w.grownBy w' row) : Chg (fun b => row = some b) w w' :=
  ⟨h.os, h.tape, h.output, h.size, fun b hb hp => h.block b hb fun e => hp e.symm⟩
set_option maxRecDepth 3000 in
/-- append of a number, in a region that draws its order. -/
theorem step_append_int {P : Program} {ops : Array Oper} {o : Oper} {a : Act} {K : Act → World → Prop} {Q : Exit → Act → World → Prop} {E : Prop} {w : World} (s x : Operand) (t : TypeId) (base : Nat) (e : TypeId) (i : TypeInfo) (z : Value) (v : Value) (n : Nat) (xs : List Value) (b : Nat) (u0 : Value)
    (hgd : o.guard = none) (ho : o.op = .call { callee := .builtin .append, args := #[s, x], argTypes := #[t, t] }) (ht : P.underlying t = some (.slice e)) (hi : P.info? e = some i) (hz : i.zero = some z) (hsize : i.size = 1) (hby : i.bytes = 8) (hzs : z.cells.size = 1)
    (hs : a.eval s = v) (hown : w.ownsRow base e 1 v n xs) (hx : a.eval x = .slice (some ⟨b, 0, none⟩) 1 1) (c0 : w.cell? ⟨b, 0, none⟩ = some u0)
    (o1 : u0.oneCell' = true) (hn : n ≤ 1000000) (hbase : base ≤ w.heap.size)
    (h : ∀ g cap w', w'.ownsRow base e 1 (.slice (some ⟨g, 0, none⟩) (n + 1) cap) (n + 1) (xs ++ [u0]) → Chg (fun b => v.ownBlock = some b) w w' → (v.ownBlock = some g ∨ w.heap.size ≤ g) → K (a.put o.dst (.slice (some ⟨g, 0, none⟩) (n + 1) cap)) w') :
    if Region.wanted o (yielded ops a.tmps) = true then Oper.wp P o a w K Q else E := by
  refine step_append_lies w hgd s x t ho base e i z 1 8 ht hi hz hsize hby hzs (by decide) v n xs hs hown ⟨b, 0, none⟩ 1 1 [u0] hx rfl (fun j u hj => ?_) (fun u hu => ?_) (by decide) (by unfold maxLen; omega) (by omega) hbase _ rfl (fun g cap w' a1 a2 a3 _ => h g cap w' a1 (chg_grown a2) (a3.imp id (fun e => by omega)))
  · rw [add_off, Nat.zero_add]
    match j, hj with
    | 0, hj => simp at hj; subst hj; exact c0
    | j + 1, hj => simp at hj
  · simp at hu
    subst hu; exact o1
set_option maxRecDepth 3000 in
theorem own_growsI {w w' : World} {base n size : Nat} {e : TypeId} {v : Value} {xs : List Value} (h : w.ownsRow base e size v n xs) (hg : Grows w w') : w'.ownsRow base e size v n xs := by
  obtain ⟨h1, h2⟩ := h
  refine ⟨h1, h2.elim Or.inl ?_⟩
  rintro ⟨g, cap, cur, hv, hb, hh, r⟩
  obtain ⟨m, rfl⟩ := hg
  exact Or.inr ⟨g, cap, cur, hv, hb, by rw [heap_more w m g (Array.getElem?_eq_some_iff.1 hh).1]; exact hh, r⟩
section
variable {base g : Nat} {w w' w2 : World} {tv ov : Value} {s : PS}
set_option maxRecDepth 3000 in
theorem own_pop {n e cap : Nat} {t : TypeId} {xs : List Value} {u : Value} (h : w.ownsRow base t 1 (.slice (some ⟨e, 0, none⟩) (n + 1) cap) (n + 1) (xs ++ [u])) : w.ownsRow base t 1 (.slice (some ⟨e, 0, none⟩) n cap) n xs := by
  obtain ⟨h1, h2⟩ := h
  have hl : xs.length = n := by simp at h1; omega
  refine ⟨by omega, .inr ?_⟩
  rcases h2 with ⟨h2, h3⟩ | ⟨g, c, cur, hv, hb, hh, r1, r2, r3, r4⟩
  · omega
  · cases hv
    refine ⟨e, cap, cur, rfl, hb, hh, by omega, r2, r3, ?_⟩
    have h5 : (cur.toList.take ((n + 1) * 1)).take n = cur.toList.take n := by rw [List.take_take]; congr 1; omega
    have h6 : (xs ++ [u]).take n = xs := by rw [← hl]; exact List.take_left
    rw [r4] at h5
    rw [Nat.mul_one, ← h5, h6]
set_option maxRecDepth 3000 in
/-- The list of open groups, once there is one. -/
theorem own_form1 {n : Nat} {t : TypeId} {xs : List Value} (h : w.ownsRow base t 1 ov (n + 1) xs) : ∃ e cap, ov = .slice (some ⟨e, 0, none⟩) (n + 1) cap ∧ n + 1 ≤ cap ∧ cap ≤ 9223372036854775807 ∧ base ≤ e ∧ e < w.heap.size := by
  rcases h.2 with ⟨h2, h3⟩ | ⟨e, c, cur, hv, hb, hh, r1, r2, r3, r4⟩
  · omega
  · exact ⟨e, c, hv, r1, by unfold maxLen at r2; omega, hb, (Array.getElem?_eq_some_iff.1 hh).1⟩
set_option maxRecDepth 3000 in
/-- A group is opened. -/
theorem Pa.push {e cap n : Nat} (h : Pa base w g tv ov s) (hown : w2.ownsRow base 3 1 (.slice (some ⟨e, 0, none⟩) (s.op.length + 1) cap) (s.op.length + 1) ((s.op.map fun n : Nat => Value.int .i64 n) ++ [.int .i64 n])) (hC : Chg (fun b => ov.ownBlock = some b) w w2) (hl : ov.ownBlock = some e ∨ w.heap.size ≤ e) (hg : s.op.length + 1 ≤ s.groups) :
    Pa base (w2.setCell ⟨g, 5, none⟩ (.slice (some ⟨e, 0, none⟩) (s.op.length + 1) cap)) g tv (.slice (some ⟨e, 0, none⟩) (s.op.length + 1) cap) { s with op := s.op ++ [n] } ∧ StepP (PaK g ov) (PaK g (.slice (some ⟨e, 0, none⟩) (s.op.length + 1) cap)) w (w2.setCell ⟨g, 5, none⟩ (.slice (some ⟨e, 0, none⟩) (s.op.length + 1) cap)) := by
  have hne : ¬ e = g := by
    rcases hl with h1 | h1
    · exact fun e1 => h.ne (by rw [h1, e1])
    · have := h.inh; unfold InHeap at this; omega
  have hb2 : blk w2 g = paC s.left tv s.groups s.parts s.refs ov := (chg_blk hC h.inh h.ne).trans h.cells
  have hcs := chg_cell w2 g 5 (.slice (some ⟨e, 0, none⟩) (s.op.length + 1) cap)
  refine ⟨⟨by rw [pa_put hb2 (paC_pos _ _ _ _ _ _)]; rfl, ?_, fun e1 => hne (by cases e1; rfl), h.low, h.parts, h.groups, h.left, by simpa using hg⟩, ⟨?_, ?_⟩⟩
  · have e1 : ({ s with op := s.op ++ [n] } : PS).op.length = s.op.length + 1 := by simp
    rw [e1]
    have e2 : (({ s with op := s.op ++ [n] } : PS).op.map fun n : Nat => Value.int .i64 n) = (s.op.map fun n : Nat => Value.int .i64 n) ++ [.int .i64 n] := by simp
    rw [e2]
    obtain ⟨h1, h2⟩ := hown
    refine ⟨h1, h2.elim .inl ?_⟩
    rintro ⟨e', cap', cur, hv, hb, hh, r⟩
    cases hv
    exact .inr ⟨e, cap, cur, rfl, hb, (hcs.block e (Array.getElem?_eq_some_iff.1 hh).1 hne).trans hh, r⟩
  · exact (hC.mono fun b _ e1 => (.inr e1 : PaK g ov b)).trans (hcs.mono fun b _ e1 => .inl e1)
  · rintro b (rfl | hb)
    · exact .inl (.inl rfl)
    · cases hb
      rcases hl with h1 | h1
      · exact .inl (.inr h1)
      · exact .inr h1
set_option maxRecDepth 3000 in
/-- It is closed. -/
theorem Pa.pop {e cap n : Nat} {l : List Nat} (h : Pa base w g tv (.slice (some ⟨e, 0, none⟩) (l.length + 1) cap) s) (hs : s.op = l ++ [n]) :
    Pa base (w.setCell ⟨g, 5, none⟩ (.slice (some ⟨e, 0, none⟩) l.length cap)) g tv (.slice (some ⟨e, 0, none⟩) l.length cap) { s with op := l } := by
  have hcs := chg_cell w g 5 (.slice (some ⟨e, 0, none⟩) l.length cap)
  have hne : ¬ e = g := fun e1 => h.ne (by rw [e1]; rfl)
  refine ⟨by rw [pa_put h.cells (paC_pos _ _ _ _ _ _)]; rfl, ?_, fun e1 => hne (by cases e1; rfl), h.low, h.parts, h.groups, h.left, by have := h.op; rw [hs] at this; simp at this ⊢; omega⟩
  have ho := h.own
  rw [hs] at ho
  have ho2 : w.ownsRow base 3 1 (.slice (some ⟨e, 0, none⟩) (l.length + 1) cap) (l.length + 1) ((l.map fun n : Nat => Value.int .i64 n) ++ [.int .i64 n]) := by simpa using ho
  obtain ⟨h1, h2⟩ := own_pop ho2
  refine ⟨h1, h2.elim .inl ?_⟩
  rintro ⟨e', cap', cur, hv, hb, hh, r⟩
  cases hv
  exact .inr ⟨e, cap, cur, rfl, hb, (hcs.block e (Array.getElem?_eq_some_iff.1 hh).1 hne).trans hh, r⟩
set_option maxRecDepth 3000 in
theorem Pa.setGroups (h : Pa base w g tv ov s) (n : Int) (hn : n = (s.groups + 1 : Nat)) (hp : s.groups + 1 ≤ 9) : Pa base (w.setCell ⟨g, 2, none⟩ (.int .i64 n)) g tv ov { s with groups := s.groups + 1 } :=
  h.self (t := { s with groups := s.groups + 1 }) (chg_cell w g 2 _) (by rw [pa_put h.cells (paC_pos _ _ _ _ _ _), hn]; rfl) rfl h.parts hp (Nat.le_succ _) (Nat.le_refl _)
end
/-- A variable of the library's own lies where no memory of ours is. -/
def SaneB (base : Nat) (w : World) : Prop := Sane w ∧ 0 < base
set_option maxRecDepth 3000 in
theorem SaneB.chg {base : Nat} {w w' : World} {q : Nat → Prop} (h : SaneB base w) (hc : Chg q w w') (hq : ∀ b, q b → base ≤ b) : SaneB base w' := by
  obtain ⟨⟨m, h1⟩, h2⟩ := h
  exact ⟨⟨m, (hc.cell (a := ⟨0, 0, none⟩) (World.block_lt_of_cell? _ _ h1) (fun e => by have h3 : base ≤ 0 := hq _ e; omega)).trans h1⟩, h2⟩
set_option maxRecDepth 3000 in
theorem SaneB.grows {base : Nat} {w w' : World} (h : SaneB base w) (hg : Grows w w') : SaneB base w' := ⟨h.1.grows hg, h.2⟩
/-- What is known of row at a state. -/
def RowSpec (tv : Value) (t : PS) : Prop := ∀ (base g : Nat) (ov : Value) (w : World), Pa base w g tv ov t → SaneB base w → Calls Tryd.prog 15 #[.pointer (some ⟨g, 0, none⟩)] w (FrPost base g tv ov w (rowF true false t))
end Go.Proofs.YtmobcljinfoacaaDoor
