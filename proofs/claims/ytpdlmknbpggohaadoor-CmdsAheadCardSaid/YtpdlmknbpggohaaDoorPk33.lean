/-
  Patterns: how things stand while a row is read.
-/
import Derived.Test.YtpdlmknbpggohaaDoorPk32
namespace Go.Proofs.YtpdlmknbpggohaaDoor
open Go.RowKit

/-- How things stand while a row is read: the list so far is the caller's own, its kids lie where nothing is written any more; av: a variable of the round's. -/
structure RB (base g : Nat) (tv ov0 : Value) (W : World) (av : Nat → Prop) (ov lv : Value) (acc : Fr) (xs : List Value) (t : PS) (w : World) : Prop where
  pa : Pa base w g tv ov t
  step : StepP (PaK g ov0) (PaK g ov) W w
  own : w.ownsRow W.heap.size 91 262 lv acc.len xs
  row : FrRow (fun b => (W.heap.size ≤ b ∧ ¬ PaK g ov b) ∧ ¬ lv.ownBlock = some b ∧ ¬ av b) w acc xs
  ne : ∀ b, lv.ownBlock = some b → ¬ PaK g ov b ∧ ¬ av b
section
variable {base g : Nat} {tv ov0 ov ov' lv : Value} {W w w' w2 : World} {av av' q : Nat → Prop} {acc : Fr} {xs : List Value} {s t t' : PS}
set_option maxRecDepth 3000 in
theorem own_chgB {n size b0 : Nat} {e : TypeId} {v : Value} (h : w.ownsRow b0 e size v n xs) (hc : Chg q w w') (hq : ∀ b, v.ownBlock = some b → ¬ q b) : w'.ownsRow b0 e size v n xs := by
  obtain ⟨h1, h2⟩ := h
  refine ⟨h1, h2.elim .inl ?_⟩
  rintro ⟨g, cap, cur, rfl, hb, hh, r⟩
  exact .inr ⟨g, cap, cur, rfl, hb, (hc.block g (Array.getElem?_eq_some_iff.1 hh).1 (hq g rfl)).trans hh, r⟩
set_option maxRecDepth 3000 in
theorem own_ltB {n size b0 b : Nat} {e : TypeId} {v : Value} (h : w.ownsRow b0 e size v n xs) (hb : v.ownBlock = some b) : b < w.heap.size ∧ b0 ≤ b := by
  rcases h.2 with ⟨rfl, _⟩ | ⟨g, cap, cur, rfl, h1, hh, _⟩
  · cases hb
  · cases hb; exact ⟨(Array.getElem?_eq_some_iff.1 hh).1, h1⟩
set_option maxRecDepth 3000 in
theorem RB.part (h : RB base g tv ov0 W av ov lv acc xs t w) (hP : Pa base w' g tv ov' t') (hS : StepP (PaK g ov) (PaK g ov') w w') (hav : ∀ b, av b → b < w.heap.size) : RB base g tv ov0 W av ov' lv acc xs t' w' := by
  refine ⟨hP, h.step.trans hS, own_chgB h.own hS.chg fun b hb => (h.ne b hb).1, ?_, fun b hb => ⟨fun hk => ?_, (h.ne b hb).2⟩⟩
  · exact ((h.row.mono (ok2 := fun b => ((W.heap.size ≤ b ∧ ¬ PaK g ov' b) ∧ ¬ lv.ownBlock = some b ∧ ¬ av b) ∧ ¬ PaK g ov b) fun b hb h2 => ⟨⟨⟨h2.1.1, fun hk => (hS.new b hk).elim h2.1.2 fun h3 => by omega⟩, h2.2⟩, h2.1.2⟩).chg hS.chg fun b _ h => h.2).mono fun b _ h => h.1
  · rcases hS.new b hk with h1 | h1
    · exact (h.ne b hb).1 h1
    · have := (own_ltB h.own hb).1; omega
set_option maxRecDepth 3000 in
theorem RB.grows (h : RB base g tv ov0 W av ov lv acc xs t w) (hg : Grows w w') : RB base g tv ov0 W av ov lv acc xs t w' :=
  have hc : Chg (fun _ => False) w w' := Chg.of_grows hg
  ⟨h.pa.grows hg, h.step.trans (StepP.of_grows hg), own_chgB h.own hc fun _ _ h => h, h.row.chg hc fun _ _ _ h => h, h.ne⟩
set_option maxRecDepth 3000 in
/-- A variable of the round's is laid. -/
theorem RB.avoid {xb : Nat} {o : Obj} (h : RB base g tv ov0 W (fun _ => False) ov lv acc xs t w) (hx : xb = w.heap.size) : RB base g tv ov0 W (fun b => b = xb) ov lv acc xs t (w.alloc o) := by
  subst hx
  have h2 := h.grows ((Grows.refl w).alloc o)
  exact ⟨h2.pa, h2.step, h2.own, (h.row.mono fun b hb h3 => ⟨h3.1, h3.2.1, by omega⟩).chg (Chg.of_grows (p := fun _ => False) ((Grows.refl w).alloc o)) fun _ _ _ h => h, fun b hb => ⟨(h.ne b hb).1, fun e => by have := (own_ltB h.own hb).1; omega⟩⟩
set_option maxRecDepth 3000 in
/-- It is written. -/
theorem RB.setx {xb : Nat} (h : RB base g tv ov0 W (fun b => b = xb) ov lv acc xs t w) (hc : Chg (fun b => b = xb) w w') (hK : ¬ PaK g ov xb) (hW : W.heap.size ≤ xb) : RB base g tv ov0 W (fun b => b = xb) ov lv acc xs t w' :=
  ⟨h.pa.chg hc fun b hb e => hK (e ▸ hb), ⟨chg_late h.step.chg hc fun x hx e => by omega, h.step.new⟩, own_chgB h.own hc fun b hb => (h.ne b hb).2, h.row.chg hc fun b _ h => h.2.2, h.ne⟩
set_option maxRecDepth 3000 in
/-- A part is laid behind the list. -/
theorem RB.push {e cap c : Nat} {A : Option Addr} {x : NdV} {k : Fr} (h : RB base g tv ov0 W av ov lv acc xs t w) (hown : w2.ownsRow W.heap.size 91 262 (.slice (some ⟨e, 0, none⟩) (acc.len + 1) cap) (acc.len + 1) (xs ++ (ndC x (.slice A k.len c)).toList)) (hC : Chg (fun b => lv.ownBlock = some b) w w2) (hl : lv.ownBlock = some e ∨ w.heap.size ≤ e)
    (hk : FrAt (fun b => (W.heap.size ≤ b ∧ ¬ PaK g ov b) ∧ ¬ lv.ownBlock = some b) w A c k) : RB base g tv ov0 W (fun _ => False) ov (.slice (some ⟨e, 0, none⟩) (acc.len + 1) cap) (acc.app (Fr.one x k)) (xs ++ (ndC x (.slice A k.len c)).toList) t w2 := by
  have hlen : (acc.app (Fr.one x k)).len = acc.len + 1 := by rw [Fr.len_app]; rfl
  have hne : ∀ b, b < w.heap.size → ¬ lv.ownBlock = some b → ¬ (Value.slice (some ⟨e, 0, none⟩) (acc.len + 1) cap).ownBlock = some b := fun b hb h1 h2 => by
    obtain rfl : e = b := Option.some.inj h2
    rcases hl with h3 | h3
    · exact h1 h3
    · omega
  refine ⟨h.pa.chg hC fun b hb e1 => (h.ne b e1).1 hb, ⟨chg_late h.step.chg hC fun b hb e1 => by have := (own_ltB h.own e1).2; omega, h.step.new⟩, by rw [hlen]; exact hown, ?_, fun b hb => ⟨fun hK => ?_, fun h => h⟩⟩
  · refine FrRow.app (((h.row.mono (ok2 := fun b => ((W.heap.size ≤ b ∧ ¬ PaK g ov b) ∧ ¬ (Value.slice (some ⟨e, 0, none⟩) (acc.len + 1) cap).ownBlock = some b ∧ ¬ False) ∧ ¬ lv.ownBlock = some b) fun b hb h2 => ⟨⟨h2.1, hne b hb h2.2.1, fun h => h⟩, h2.2.1⟩).chg hC fun b _ h => h.2).mono fun b _ h => h.1) ?_
    obtain ⟨ys, h1, h2⟩ := ((hk.mono (ok2 := fun b => ((W.heap.size ≤ b ∧ ¬ PaK g ov b) ∧ ¬ (Value.slice (some ⟨e, 0, none⟩) (acc.len + 1) cap).ownBlock = some b ∧ ¬ False) ∧ ¬ lv.ownBlock = some b) fun b hb h2 => ⟨⟨h2.1, hne b hb h2.2, fun h => h⟩, h2.2⟩).chg hC fun b _ h => h.2).mono (ok2 := fun b => (W.heap.size ≤ b ∧ ¬ PaK g ov b) ∧ ¬ (Value.slice (some ⟨e, 0, none⟩) (acc.len + 1) cap).ownBlock = some b ∧ ¬ False) fun b _ h => h.1
    exact ⟨A, c, ys, [], (List.append_nil _).symm, h1, h2, rfl⟩
  · obtain rfl : e = b := Option.some.inj hb
    rcases hl with h3 | h3
    · exact (h.ne e h3).1 hK
    · have := h.pa.own_lt hK; omega
set_option maxRecDepth 3000 in
/-- The list is handed back. -/
theorem RB.ret (h : RB base g tv ov0 W av ov lv acc xs t w) : ∃ A cap, lv = .slice A acc.len cap ∧ FrAt (fun b => W.heap.size ≤ b ∧ ¬ PaK g ov b) w A cap acc := by
  have hr := h.row.mono (ok2 := fun b => W.heap.size ≤ b ∧ ¬ PaK g ov b) fun b _ h => h.1
  rcases h.own with ⟨hl, ⟨rfl, h0⟩ | ⟨e, cap, cur, rfl, hb, hh, h1, h2, h3, h4⟩⟩
  · rw [h0] at hl ⊢
    have : xs = [] := List.length_eq_zero_iff.1 (by simpa using hl)
    subst this
    exact ⟨none, 0, rfl, [], by rw [h0]; exact Sl.zero _ w, hr⟩
  · refine ⟨some ⟨e, 0, none⟩, cap, rfl, xs, ⟨⟨hl, fun _ => ⟨e, 0, rfl, (Array.getElem?_eq_some_iff.1 hh).1, fun j u hu => ?_⟩⟩, (fun e => by cases e), h1, by unfold maxLen at h2; omega, fun _ a e1 => by cases e1; exact ⟨hb, (h.ne e rfl).1⟩⟩, hr⟩
    rw [cell_of_row w e _ cur _ (0, 0) hh, Nat.zero_add]
    rw [← h4, List.getElem?_take] at hu
    split at hu
    · simpa using hu
    · cases hu
set_option maxRecDepth 3000 in
theorem RB.start (h : Pa base w g tv ov s) : RB base g tv ov w (fun _ => False) ov (.slice none 0 0) .nil [] s w :=
  ⟨h, StepP.of_grows (Grows.refl _), World.ownsRow_nil _ _ _ _, rfl, fun b hb => by cases hb⟩
end
end Go.Proofs.YtpdlmknbpggohaaDoor
