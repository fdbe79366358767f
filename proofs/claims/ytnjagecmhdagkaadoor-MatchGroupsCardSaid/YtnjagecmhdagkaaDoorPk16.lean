/-
  Several texts of the proof: ClsParse, BreOpen.
-/
import Derived.Test.YtnjagecmhdagkaaDoorPk09
import Derived.Test.YtnjagecmhdagkaaDoorPk15
import Derived.Deep.AppendLies
set_option linter.unusedSimpArgs false
set_option linter.unusedVariables false
/-
  Classes: Parse, walked.
-/
namespace Go.Proofs.YtnjagecmhdagkaaDoor
open Go.RowKit

attribute [local go_sem] tx_bt tx_from
attribute [local go_sem ↓] zero22
set_option maxRecDepth 3000 in
theorem SA_getElem (p : Nat → Bool) (j : Nat) (h : j < (SA p).size) : (SA p)[j]'h = .bool (p j) := by simp [SA]
attribute [local go_sem] SA_getElem
/-- The bytes below j turned, if so be. -/
def flipTo (p : Nat → Bool) (nt : Bool) (j : Nat) : Nat → Bool := fun c => if c < j then p c != nt else p c
set_option maxRecDepth 3000 in
theorem flip_zero (p : Nat → Bool) (nt : Bool) : SA (flipTo p nt 0) = SA p := SA_ext fun c _ => by simp [flipTo]
set_option maxRecDepth 3000 in
theorem flip_at (p : Nat → Bool) (nt : Bool) (j : Nat) : flipTo p nt j j = p j := by simp [flipTo]
set_option maxRecDepth 3000 in
theorem flip_set (p : Nat → Bool) (nt : Bool) (j : Nat) : (SA (flipTo p nt j)).setIfInBounds j (.bool (p j != nt)) = SA (flipTo p nt (j + 1)) := by
  rw [set_SA]
  refine SA_ext fun c _ => ?_
  unfold flipTo
  by_cases h : c = j
  · subst h; simp
  · by_cases h2 : c < j
    · rw [if_neg h, if_pos h2, if_pos (by omega)]
    · rw [if_neg h, if_neg h2, if_neg (by omega)]
set_option maxRecDepth 3000 in
theorem flip_put (p : Nat → Bool) (nt : Bool) (j : Nat) (d : Bool) (h : (p j != nt) = d) : (SA (flipTo p nt j)).setIfInBounds j (.bool d) = SA (flipTo p nt (j + 1)) := by rw [← h]; exact flip_set p nt j
set_option maxRecDepth 3000 in
theorem flip_end (p : Nat → Bool) (nt : Bool) (j : Nat) (h : 256 ≤ j) : SA (flipTo p nt j) = SA fun c => p c != nt := SA_ext fun c hc => by
  unfold flipTo; rw [if_pos (by omega)]
set_option maxRecDepth 3000 in
theorem mk_tx (l : List UInt8) : (⟨l.toArray⟩ : ByteArray) = tx l := rfl
set_option maxRecDepth 3000 in
theorem lit_data (a : Array UInt8) : (ByteArray.mk a).data.toList = a.toList := rfl
/-- Parse's ending. -/
def ParsePost (r : (Nat → Bool) × Int × Int) (w : World) (e : Ending) (w' : World) : Prop := e = .returned (.tuple #[.agg (SA r.1), .int .i64 r.2.1, .int .i64 r.2.2]) ∧ Grows w w'
set_option maxRecDepth 100000 in
set_option maxHeartbeats 4000000 in
theorem parse_any (s : List UInt8) (at_ : Int) (w : World) (hl : s.length ≤ 1000000) (hs : Sane w) (ha : I64 at_) : Calls Tryd.prog 57 #[.string (tx s), .int .i64 at_] w (ParsePost (parseA s at_) w) := by
  obtain ⟨ha1, ha2⟩ := ha
  go_enter Tryd.func57, Tryd.ntmps57
  by_cases h0 : at_ < 0
  · have hA := parseA_none (s := s) (at_ := at_) (by omega)
    have HA := Lib.hid hA
    clear hA
    go_wp2_with fail
    exact bodyPost_ret (v := .tuple #[.agg (SA fun _ => false), .int .i64 0, .int .i64 90]) (by simp [results, Tryd.results57, go_sem]) rfl ⟨by rw [HA.out], (Grows.refl _).alloc _⟩
  by_cases h1 : (s.length : Int) ≤ at_
  · have hA := parseA_none (s := s) (at_ := at_) (by omega)
    have HA := Lib.hid hA
    clear hA
    go_wp2_with fail
    exact bodyPost_ret (v := .tuple #[.agg (SA fun _ => false), .int .i64 0, .int .i64 90]) (by simp [results, Tryd.results57, go_sem]) rfl ⟨by rw [HA.out], (Grows.refl _).alloc _⟩
  obtain ⟨k, rfl⟩ : ∃ k : Nat, at_ = k := ⟨at_.toNat, by omega⟩
  have hk : k < s.length := by omega
  have hA := parseA_in hk
  have hx : (tx s).extract k s.length = tx (s.drop k) := tx_from s k
  have hkl : (k : Int) ≤ (s.length : Int) := by omega
  have hdl : (s.drop k).length = s.length - k := by simp
  generalize hT : s.drop k = t at *
  have HA0 := Lib.hid hA
  clear hA
  go_wp2_with fail
  (with_reducible refine (Tryd.strings_CutPrefix _ _ _).mono ?_)
  rw [tx_data, lit_data, trimPrefix_one, hasPrefix_one]
  rintro e w1 ⟨rfl, rfl⟩
  by_cases h2 : t.head? = some 91
  · rw [if_pos h2, show decide (t.head? = some 91) = true from by simpa using h2, mk_tx]
    obtain ⟨u, hu⟩ : ∃ u, t.drop 1 = u := ⟨_, rfl⟩
    rw [hu]
    go_wp2_with fail
    (with_reducible refine (Tryd.strings_CutPrefix _ _ _).mono ?_)
    rw [tx_data, lit_data, trimPrefix_one, hasPrefix_one]
    rintro e w1 ⟨rfl, rfl⟩
    obtain ⟨r, nt, hr1, hr2, hrl, hP⟩ : ∃ (r : List UInt8) (nt : Bool), (if u.head? = some 94 then u.drop 1 else u) = r ∧ decide (u.head? = some 94) = nt ∧ r.length ≤ t.length ∧ parseV t = (loopF true (fun _ => false) r).map fun x => (fun c => x.1 c != nt, t.length - x.2.length + 1) := by
      subst hu
      by_cases h3 : (t.drop 1).head? = some 94
      · refine ⟨t.drop 2, true, by rw [if_pos h3, List.drop_drop], by simpa using h3, by simp, ?_⟩
        unfold parseV; rw [if_pos h2, if_pos h3]
      · refine ⟨t.drop 1, false, by rw [if_neg h3], by simpa using h3, by simp, ?_⟩
        unfold parseV; rw [if_pos h2, if_neg h3]
    rw [hr1, hr2, mk_tx]
    have hA := HA0.out
    rw [hP] at hA
    have HA := Lib.hid hA
    clear hA HA0 hP hr1 hr2 h2 hT hu
    go_wp2_with fail
    go_loopg [7, 10, 11, 12, 13] (r.length + 1) (fun q v7 v10 _ _ _ wr => ∃ (rest : List UInt8) (f : Bool) (p : Nat → Bool) (m : More), q = rest.length + 1 ∧ rest.length ≤ r.length ∧ v7 = .string (tx rest) ∧ v10 = .bool f ∧ loopF true (fun _ => false) r = loopF f p rest ∧ wr = more (w.alloc (.cells (SA p) 72)) m)
    case atStart => exact ⟨r, true, fun _ => false, _, rfl, by omega, rfl, rfl, rfl, more_self _⟩
    case round =>
      obtain ⟨rest, f, p, m, hq, hrl2, rfl, rfl, hF, rfl⟩ := hrel
      have HQ := Lib.hid hq
      have HF := Lib.hid hF
      clear hq hF
      have hS : Sane (more (w.alloc (.cells (SA p) 72)) m) := hs.grows (by repeat' first | exact Grows.refl _ | refine Grows.more ?_ _ | refine Grows.alloc ?_ _ | refine Grows.drew ?_)
      have HS := Lib.hid hS
      clear hS
      by_cases hstop : f = false ∧ rest.head? = some 93
      · obtain ⟨rfl, hh⟩ := hstop
        go_wp2_with fail
        (with_reducible refine (Tryd.strings_HasPrefix _ _ _).mono ?_)
        rw [tx_data, lit_data, hasPrefix_one, show decide (rest.head? = some 93) = true from by simpa using hh]
        rintro e w1 ⟨rfl, rfl⟩
        have hF2 := HF.out
        rw [loopF_end p rest hh] at hF2
        have hA := HA.out
        rw [hF2] at hA
        simp only [Option.map_some] at hA
        have HA2 := Lib.hid hA
        clear hF2 hA HA HF hh
        go_wp2_with fail
        go_loopg [57, 14] 256 (fun q v57 _ wr => ∃ j : Nat, q + j = 256 ∧ v57 = .int .i64 j ∧ wr = more (w.alloc (.cells (SA (flipTo p nt j)) 72)) m)
        case atStart => exact ⟨0, by omega, rfl, by rw [flip_zero]⟩
        case round =>
          obtain ⟨j, hq2, rfl, rfl⟩ := hrel
          have HQ2 := Lib.hid hq2
          clear hq2
          by_cases h3 : j < 256
          · have j0 : (0 : Int) ≤ (j : Int) := by omega
            have j1 : (j : Int) < 256 := by omega
            have hfj := flip_at p nt j
            obtain ⟨d, hd⟩ : ∃ d, p j = d := ⟨_, rfl⟩
            rw [hd] at hfj
            cases d <;> cases nt
            · have hfs := flip_put p false j false (by rw [hd]; rfl)
              clear hd
              go_wp2_with fail
              go_roundg (gk - 1)
              case measure => have := HQ2.out; omega
              case rel => exact ⟨j + 1, by have := HQ2.out; omega, by go_num, rfl⟩
            · have hfs := flip_put p true j true (by rw [hd]; rfl)
              clear hd
              go_wp2_with fail
              go_roundg (gk - 1)
              case measure => have := HQ2.out; omega
              case rel => exact ⟨j + 1, by have := HQ2.out; omega, by go_num, rfl⟩
            · have hfs := flip_put p false j true (by rw [hd]; rfl)
              clear hd
              go_wp2_with fail
              go_roundg (gk - 1)
              case measure => have := HQ2.out; omega
              case rel => exact ⟨j + 1, by have := HQ2.out; omega, by go_num, rfl⟩
            · have hfs := flip_put p true j false (by rw [hd]; rfl)
              clear hd
              go_wp2_with fail
              go_roundg (gk - 1)
              case measure => have := HQ2.out; omega
              case rel => exact ⟨j + 1, by have := HQ2.out; omega, by go_num, rfl⟩
          · have hfe := flip_end p nt j (by omega)
            have hrl3 : (rest.length : Int) ≤ s.length := by omega
            have hsub : ((t.length - rest.length + 1 : Nat) : Int) + k = s.length - rest.length + 1 := by omega
            have HSUB := Lib.hid hsub
            clear hsub
            go_wp2_with fail
            exact bodyPost_ret (v := .tuple #[.agg (SA fun c => p c != nt), .int .i64 ((s.length : Int) - rest.length + 1), .int .i64 0]) (by simp [results, Tryd.results57, go_sem]) rfl ⟨by rw [HA2.out, ← HSUB.out, Int.add_comm], (by repeat' first | exact Grows.refl _ | refine Grows.more ?_ _ | refine Grows.alloc ?_ _ | refine Grows.drew ?_)⟩
      · have HL1 : Hid (partV rest = none → loopF true (fun _ => false) r = none) := Lib.hid fun h => by rw [HF.out]; exact loopF_none hstop h
        have HL2 : Hid (∀ x, partV rest = some x → loopF true (fun _ => false) r = loopF false (fun c => p c || x.1 c) x.2) := Lib.hid fun x h => by rw [HF.out]; exact loopF_next hstop h
        clear HF
        cases f
        case' false =>
          have hh : ¬rest.head? = some 93 := fun h => hstop ⟨rfl, h⟩
          go_wp2_with fail
          (with_reducible refine (Tryd.strings_HasPrefix _ _ _).mono ?_)
          rw [tx_data, lit_data, hasPrefix_one, show decide (rest.head? = some 93) = false from by simpa using hh]
          rintro e w1 ⟨rfl, rfl⟩
        all_goals
          go_wp2_with fail
          (with_reducible refine (part_any rest _ (by omega) HS.out).mono ?_)
          rintro e w1 ⟨v, r', b, rfl, hb, hv, m1, rfl⟩
          cases hpv : partV rest with
          | none =>
            rw [hpv] at hb
            have hA := HA.out
            rw [HL1.out hpv] at hA
            simp only [Option.isSome_none] at hb
            simp only [Option.map_none] at hA
            subst hb
            have HA2 := Lib.hid hA
            clear hv hA HA HL1 HL2
            go_wp2_with fail
            exact bodyPost_ret (v := .tuple #[.agg (SA fun _ => false), .int .i64 0, .int .i64 90]) (by simp [results, Tryd.results57, go_sem]) rfl ⟨by rw [HA2.out], (by repeat' first | exact Grows.refl _ | refine Grows.more ?_ _ | refine Grows.alloc ?_ _ | refine Grows.drew ?_)⟩
          | some x =>
            rw [hpv] at hb
            obtain ⟨rfl, ht⟩ := hv x hpv
            have hF2 := HL2.out x hpv
            have HF2 := Lib.hid hF2
            have hxl := partV_len hpv
            simp only [Option.isSome_some] at hb
            subst hb
            clear hv hF2 HL1 HL2 hpv
            have hblk : blk (more (more (w.alloc (.cells (SA p) 72)) m) m1) w.heap.size = SA p := by simp [go_sem]
            go_wp2_with fail
            (with_reducible refine (add_any w.heap.size _ p v x.1 _ hblk (by simp; omega) ht).mono ?_)
            rintro e w2 ⟨rfl, m2, rfl⟩
            simp only [more_more, setBlk_more (w.alloc (.cells (SA p) 72)) _ (SA fun c => p c || x.1 c) w.heap.size (by simp [go_sem]), setBlk_alloc_at w (SA p) (SA fun c => p c || x.1 c) 72 w.heap.size rfl]
            go_wp2_with fail
            go_roundg (x.2.length + 1)
            case measure => have := HQ.out; omega
            case rel => exact ⟨x.2, false, fun c => p c || x.1 c, _, rfl, by omega, rfl, rfl, HF2.out, rfl⟩
  · rw [if_neg h2, show decide (t.head? = some 91) = false from by simpa using h2, mk_tx]
    have hA := HA0.out
    rw [show parseV t = none by unfold parseV; rw [if_neg h2]] at hA
    simp only [] at hA
    have HA := Lib.hid hA
    clear hA HA0 h2
    go_wp2_with fail
    exact bodyPost_ret (v := .tuple #[.agg (SA fun _ => false), .int .i64 0, .int .i64 90]) (by simp [results, Tryd.results57, go_sem]) rfl ⟨by rw [HA.out], (Grows.refl _).alloc _⟩
end Go.Proofs.YtnjagecmhdagkaaDoor

/-
  Patterns: the open groups.
-/
namespace Go.Proofs.YtnjagecmhdagkaaDoor
open Go.RowKit

set_option maxRecDepth 3000 in
theorem infoInt : (Tryd.prog.info? 3).map (fun i => (i.zero, i.size, i.bytes)) = some (some (.int .i64 0), 1, 8) := by kernel_rfl
set_option maxRecDepth 3000 in
theorem infoInt_parts : ∃ i, Tryd.prog.info? 3 = some i ∧ i.zero = some (.int .i64 0) ∧ i.size = 1 ∧ i.bytes = 8 := by
  have h := infoInt
  cases hq : Tryd.prog.info? 3 with
  | none => rw [hq] at h; cases h
  | some i =>
    rw [hq] at h
    simp only [Option.map_some, Option.some.injEq, Prod.mk.injEq] at h
    exact ⟨i, rfl, h.1, h.2.1, h.2.2⟩
set_option maxRecDepth 3000 in
theorem chg_grown {w w' : World} {row : Option Nat} (h : w.grownBy w' row) : Chg (fun b => row = some b) w w' :=
  ⟨h.os, h.tape, h.output, h.size, fun b hb hp => h.block b hb fun e => hp e.symm⟩
set_option maxRecDepth 3000 in
/-- append of a number, in a region that draws its order. -/
theorem step_append_int {P : Program} {ops : Array Oper} {o : Oper} {a : Act} {K : Act → World → Prop} {Q : Exit → Act → World → Prop} {E : Prop} {w : World} (s x : Operand) (t : TypeId) (base : Nat) (e : TypeId) (i : TypeInfo) (z : Value) (v : Value) (n : Nat) (xs : List Value) (b : Nat) (u0 : Value)
    (hgd : o.guard = none) (ho : o.op = .call { callee := .builtin .append, args := #[s, x], argTypes := #[t, t] }) (ht : P.underlying t = some (.slice e)) (hi : P.info? e = some i) (hz : i.zero = some z) (hsize : i.size = 1) (hby : i.bytes = 8) (hzs : z.cells.size = 1)
    (hs : a.eval s = v) (hown : w.ownsRow base e 1 v n xs) (hx : a.eval x = .slice (some ⟨b, 0, none⟩) 1 1) (c0 : w.cell? ⟨b, 0, none⟩ = some u0)
    (o1 : u0.oneCell' = true) (hn : n ≤ 1000000) (hbase : base ≤ w.heap.size)
    (h : ∀ g cap w', w'.ownsRow base e 1 (.slice (some ⟨g, 0, none⟩) (n + 1) cap) (n + 1) (xs ++ [u0]) → Chg (fun b => v.ownBlock = some b) w w' → (v.ownBlock = some g ∨ w.heap.size ≤ g) → K (a.put o.dst (.slice (some ⟨g, 0, none⟩) (n + 1) cap)) w') :
    if Region.wanted o (yielded ops a.tmps) = true then Oper.wp P o a w K Q else E := by
  refine step_append_lies w hgd s x t ho base e i z 1 8 ht hi hz hsize hby hzs (by decide) v n xs hs hown ⟨b, 0, none⟩ 1 1 [u0] hx rfl (fun j u hj => ?_) (fun u hu => ?_) (by decide) (by unfold maxLen; omega) (by omega) hbase _ rfl (fun g cap w' a1 a2 a3 _ => h g cap w' a1 (chg_grown a2) (a3.imp id (fun e => by omega)))
  · rw [add_off, Nat.zero_add]
    match j, hj with
    | 0, hj => simp at hj; subst hj; exact c0
    | j + 1, hj => simp at hj
  · simp at hu
    subst hu; exact o1
set_option maxRecDepth 3000 in
theorem own_growsI {w w' : World} {base n size : Nat} {e : TypeId} {v : Value} {xs : List Value} (h : w.ownsRow base e size v n xs) (hg : Grows w w') : w'.ownsRow base e size v n xs := by
  obtain ⟨h1, h2⟩ := h
  refine ⟨h1, h2.elim Or.inl ?_⟩
  rintro ⟨g, cap, cur, hv, hb, hh, r⟩
  obtain ⟨m, rfl⟩ := hg
  exact Or.inr ⟨g, cap, cur, hv, hb, by rw [heap_more w m g (Array.getElem?_eq_some_iff.1 hh).1]; exact hh, r⟩
section
variable {base g : Nat} {w w' w2 : World} {tv ov : Value} {s : PS}
set_option maxRecDepth 3000 in
theorem own_pop {n e cap : Nat} {t : TypeId} {xs : List Value} {u : Value} (h : w.ownsRow base t 1 (.slice (some ⟨e, 0, none⟩) (n + 1) cap) (n + 1) (xs ++ [u])) : w.ownsRow base t 1 (.slice (some ⟨e, 0, none⟩) n cap) n xs := by
  obtain ⟨h1, h2⟩ := h
  have hl : xs.length = n := by simp at h1; omega
  refine ⟨by omega, .inr ?_⟩
  rcases h2 with ⟨h2, h3⟩ | ⟨g, c, cur, hv, hb, hh, r1, r2, r3, r4⟩
  · omega
  · cases hv
    refine ⟨e, cap, cur, rfl, hb, hh, by omega, r2, r3, ?_⟩
    have h5 : (cur.toList.take ((n + 1) * 1)).take n = cur.toList.take n := by rw [List.take_take]; congr 1; omega
    have h6 : (xs ++ [u]).take n = xs := by rw [← hl]; exact List.take_left
    rw [r4] at h5
    rw [Nat.mul_one, ← h5, h6]
set_option maxRecDepth 3000 in
/-- The list of open groups, once there is one. -/
theorem own_form1 {n : Nat} {t : TypeId} {xs : List Value} (h : w.ownsRow base t 1 ov (n + 1) xs) : ∃ e cap, ov = .slice (some ⟨e, 0, none⟩) (n + 1) cap ∧ n + 1 ≤ cap ∧ cap ≤ 9223372036854775807 ∧ base ≤ e ∧ e < w.heap.size := by
  rcases h.2 with ⟨h2, h3⟩ | ⟨e, c, cur, hv, hb, hh, r1, r2, r3, r4⟩
  · omega
  · exact ⟨e, c, hv, r1, by unfold maxLen at r2; omega, hb, (Array.getElem?_eq_some_iff.1 hh).1⟩
set_option maxRecDepth 3000 in
/-- A group is opened. -/
theorem Pa.push {e cap n : Nat} (h : Pa base w g tv ov s) (hown : w2.ownsRow base 3 1 (.slice (some ⟨e, 0, none⟩) (s.op.length + 1) cap) (s.op.length + 1) ((s.op.map fun n : Nat => Value.int .i64 n) ++ [.int .i64 n])) (hC : Chg (fun b => ov.ownBlock = some b) w w2) (hl : ov.ownBlock = some e ∨ w.heap.size ≤ e) (hg : s.op.length + 1 ≤ s.groups) :
    Pa base (w2.setCell ⟨g, 5, none⟩ (.slice (some ⟨e, 0, none⟩) (s.op.length + 1) cap)) g tv (.slice (some ⟨e, 0, none⟩) (s.op.length + 1) cap) { s with op := s.op ++ [n] } ∧ StepP (PaK g ov) (PaK g (.slice (some ⟨e, 0, none⟩) (s.op.length + 1) cap)) w (w2.setCell ⟨g, 5, none⟩ (.slice (some ⟨e, 0, none⟩) (s.op.length + 1) cap)) := by
  have hne : ¬ e = g := by
    rcases hl with h1 | h1
    · exact fun e1 => h.ne (by rw [h1, e1])
    · have := h.inh; unfold InHeap at this; omega
  have hb2 : blk w2 g = paC s.left tv s.groups s.parts s.refs ov := (chg_blk hC h.inh h.ne).trans h.cells
  have hcs := chg_cell w2 g 5 (.slice (some ⟨e, 0, none⟩) (s.op.length + 1) cap)
  refine ⟨⟨by rw [pa_put hb2 (paC_pos _ _ _ _ _ _)]; rfl, ?_, fun e1 => hne (by cases e1; rfl), h.low, h.parts, h.groups, h.left, by simpa using hg⟩, ⟨?_, ?_⟩⟩
  · have e1 : ({ s with op := s.op ++ [n] } : PS).op.length = s.op.length + 1 := by simp
    rw [e1]
    have e2 : (({ s with op := s.op ++ [n] } : PS).op.map fun n : Nat => Value.int .i64 n) = (s.op.map fun n : Nat => Value.int .i64 n) ++ [.int .i64 n] := by simp
    rw [e2]
    obtain ⟨h1, h2⟩ := hown
    refine ⟨h1, h2.elim .inl ?_⟩
    rintro ⟨e', cap', cur, hv, hb, hh, r⟩
    cases hv
    exact .inr ⟨e, cap, cur, rfl, hb, (hcs.block e (Array.getElem?_eq_some_iff.1 hh).1 hne).trans hh, r⟩
  · exact (hC.mono fun b _ e1 => (.inr e1 : PaK g ov b)).trans (hcs.mono fun b _ e1 => .inl e1)
  · rintro b (rfl | hb)
    · exact .inl (.inl rfl)
    · cases hb
      rcases hl with h1 | h1
      · exact .inl (.inr h1)
      · exact .inr h1
set_option maxRecDepth 3000 in
/-- It is closed. -/
theorem Pa.pop {e cap n : Nat} {l : List Nat} (h : Pa base w g tv (.slice (some ⟨e, 0, none⟩) (l.length + 1) cap) s) (hs : s.op = l ++ [n]) :
    Pa base (w.setCell ⟨g, 5, none⟩ (.slice (some ⟨e, 0, none⟩) l.length cap)) g tv (.slice (some ⟨e, 0, none⟩) l.length cap) { s with op := l } := by
  have hcs := chg_cell w g 5 (.slice (some ⟨e, 0, none⟩) l.length cap)
  have hne : ¬ e = g := fun e1 => h.ne (by rw [e1]; rfl)
  refine ⟨by rw [pa_put h.cells (paC_pos _ _ _ _ _ _)]; rfl, ?_, fun e1 => hne (by cases e1; rfl), h.low, h.parts, h.groups, h.left, by have := h.op; rw [hs] at this; simp at this ⊢; omega⟩
  have ho := h.own
  rw [hs] at ho
  have ho2 : w.ownsRow base 3 1 (.slice (some ⟨e, 0, none⟩) (l.length + 1) cap) (l.length + 1) ((l.map fun n : Nat => Value.int .i64 n) ++ [.int .i64 n]) := by simpa using ho
  obtain ⟨h1, h2⟩ := own_pop ho2
  refine ⟨h1, h2.elim .inl ?_⟩
  rintro ⟨e', cap', cur, hv, hb, hh, r⟩
  cases hv
  exact .inr ⟨e, cap, cur, rfl, hb, (hcs.block e (Array.getElem?_eq_some_iff.1 hh).1 hne).trans hh, r⟩
set_option maxRecDepth 3000 in
theorem Pa.setGroups (h : Pa base w g tv ov s) (n : Int) (hn : n = (s.groups + 1 : Nat)) (hp : s.groups + 1 ≤ 9) : Pa base (w.setCell ⟨g, 2, none⟩ (.int .i64 n)) g tv ov { s with groups := s.groups + 1 } :=
  h.self (t := { s with groups := s.groups + 1 }) (chg_cell w g 2 _) (by rw [pa_put h.cells (paC_pos _ _ _ _ _ _), hn]; rfl) rfl h.parts hp (Nat.le_succ _) (Nat.le_refl _)
end
/-- A variable of the library's own lies where no memory of ours is. -/
def SaneB (base : Nat) (w : World) : Prop := Sane w ∧ 1 < base
set_option maxRecDepth 3000 in
theorem SaneB.chg {base : Nat} {w w' : World} {q : Nat → Prop} (h : SaneB base w) (hc : Chg q w w') (hq : ∀ b, q b → base ≤ b) : SaneB base w' := by
  obtain ⟨⟨m, h1⟩, h2⟩ := h
  exact ⟨⟨m, (hc.cell (a := ⟨1, 0, none⟩) (World.block_lt_of_cell? _ _ h1) (fun e => by have h3 : base ≤ 1 := hq _ e; omega)).trans h1⟩, h2⟩
set_option maxRecDepth 3000 in
theorem SaneB.grows {base : Nat} {w w' : World} (h : SaneB base w) (hg : Grows w w') : SaneB base w' := ⟨h.1.grows hg, h.2⟩
/-- What is known of row at a state. -/
def RowSpec (tv : Value) (t : PS) : Prop := ∀ (base g : Nat) (ov : Value) (w : World), Pa base w g tv ov t → SaneB base w → Calls Tryd.prog 23 #[.pointer (some ⟨g, 0, none⟩)] w (FrPost base g tv ov w (rowF true false t))
end Go.Proofs.YtnjagecmhdagkaaDoor
