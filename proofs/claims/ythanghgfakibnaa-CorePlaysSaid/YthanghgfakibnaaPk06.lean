/-
  Pieces: tables in memory; the walks of cut, of, parts.
-/
import Derived.Test.YthanghgfakibnaaPk03
import Derived.Test.YthanghgfakibnaaPk05
namespace Go.Proofs.Ythanghgfakibnaa
open Go.RowKit

set_option maxRecDepth 3000 in
theorem infoPiece : (Try.prog.info? 114).map (fun i => (i.zero, i.size, i.bytes)) = some (some (.slice none 0 0), 1, 24) := by kernel_rfl
/-- A part whose room is known. -/
def Part.good (w : World) (p : Part) : Prop := p.ok w ∧ p.d.length ≤ p.cap ∧ p.cap ≤ 9223372036854775807
set_option maxRecDepth 3000 in
theorem Part.good.grows {w w' : World} {p : Part} (h : p.good w) (hg : Grows w w') : p.good w' := ⟨Part.grows h.1 hg, h.2⟩
/-- A row of parts, read. -/
def pv (ps : List Part) : List Value := ps.map Part.val
set_option maxRecDepth 3000 in
theorem pv_length (ps : List Part) : (pv ps).length = ps.length := by simp [pv]
set_option maxRecDepth 3000 in
theorem pv_append (a b : List Part) : pv a ++ pv b = pv (a ++ b) := by simp [pv]
set_option maxRecDepth 3000 in
theorem pv_one (ps : List Part) : ∀ u ∈ pv ps, u.oneCell' = true := by
  intro u hu
  simp only [pv, List.mem_map] at hu
  obtain ⟨s, _, rfl⟩ := hu
  rfl
set_option maxRecDepth 3000 in
theorem Rd.part {w : World} {A : Option Addr} {ps : List Part} (h : Rd w 1 A ps.length (pv ps)) (k : Nat) (hk : k < ps.length) : ∃ b o, A = some ⟨b, o, none⟩ ∧ b < w.heap.size ∧ w.cell? ⟨b, o + k, none⟩ = some (.slice ps[k].A ps[k].d.length ps[k].cap) := by
  obtain ⟨b, o, e, hb, hc⟩ := h.at_ (j := k) (by simpa [pv] using hk)
  exact ⟨b, o, e, hb, by simpa [pv, Part.val] using hc⟩
set_option maxRecDepth 3000 in
theorem own_form {w : World} {base n size : Nat} {e : TypeId} {v : Value} {xs : List Value} (h : w.ownsRow base e size v n xs) : ∃ A cap, v = .slice A n cap := by
  rcases h.2 with ⟨e, h0⟩ | ⟨g, cap, cur, hv, _⟩
  · exact ⟨none, 0, by rw [e, h0]⟩
  · exact ⟨_, cap, hv⟩
set_option maxRecDepth 3000 in
theorem blk_grown1 {W w1 : World} {p : Obj} {v : Value} {g : Nat} {c : Array Value} (h : (W.alloc p).grownBy w1 v.ownBlock) (hb : blk W g = c) (hg : g < W.heap.size) (hne : some g ≠ v.ownBlock) : blk w1 g = c := by
  have e : w1.heap[g]? = W.heap[g]? := by
    rw [h.block g (by simp; omega) hne]
    rw [heap_alloc_old _ _ hg]
  unfold blk at hb ⊢
  rw [e]
  exact hb
set_option maxRecDepth 3000 in
theorem own_past {W : World} {base k : Nat} {e : TypeId} {v : Value} {xs : List Value} (hr : W.ownsRow base e 1 v k xs) {j : Nat} (hj : j < base) : some j ≠ v.ownBlock := by
  rcases hr.2 with ⟨rfl, _⟩ | ⟨g, cap, cur, rfl, hb, _⟩
  · simp [Value.ownBlock]
  · simp [Value.ownBlock]; omega
set_option maxRecDepth 3000 in
theorem own_setBlk {W : World} {base n g : Nat} {e : TypeId} {v : Value} {xs : List Value} {c : Array Value} (h : W.ownsRow base e 1 v n xs) (hg : g < base) : (setBlk W g c).ownsRow base e 1 v n xs := by
  refine ⟨h.1, h.2.elim Or.inl ?_⟩
  rintro ⟨b, cap, cur, hv, hb, hh, r⟩
  exact Or.inr ⟨b, cap, cur, hv, hb, by unfold setBlk; rw [setRow_other W g b c (by omega)]; exact hh, r⟩
set_option maxRecDepth 3000 in
theorem below_setBlk {w W : World} {base g : Nat} {c : Array Value} (h : Below base w W) (hg : base ≤ g) : Below base w (setBlk W g c) :=
  ⟨h.os, h.tape, h.output, by simpa using h.size, fun k hk => by unfold setBlk; rw [setRow_other W g k c (by omega)]; exact h.block k hk⟩
set_option maxRecDepth 3000 in
theorem own_grows1 {w w' : World} {base n : Nat} {e : TypeId} {v : Value} {xs : List Value} (h : w.ownsRow base e 1 v n xs) (hg : Grows w w') : w'.ownsRow base e 1 v n xs := by
  obtain ⟨h1, h2⟩ := h
  refine ⟨h1, h2.elim Or.inl ?_⟩
  rintro ⟨g, cap, cur, hv, hb, hh, r⟩
  obtain ⟨m, rfl⟩ := hg
  exact Or.inr ⟨g, cap, cur, hv, hb, by rw [heap_more w m g (Array.getElem?_eq_some_iff.1 hh).1]; exact hh, r⟩
set_option maxRecDepth 3000 in
theorem own_below1 {w W w1 : World} {base k : Nat} {e : TypeId} {v : Value} {xs : List Value} {o : Obj} (hB : Below base w W) (hrow : W.ownsRow base e 1 v k xs) (hbs : base ≤ W.heap.size) (hgrow : (W.alloc o).grownBy w1 v.ownBlock) : Below base w w1 :=
  (hB.alloc hbs o).grown hgrow (by simp; omega) (fun j hj => (hrow.lt j hj).1)
set_option maxRecDepth 3000 in
/-- The parts that a call has laid itself: where they lie. -/
theorem own_parts {w : World} {base : Nat} {v : Value} {ps : List Part} (h : w.ownsRow base 114 1 v ps.length (pv ps)) : ∃ A cap, v = .slice A ps.length cap ∧ ps.length ≤ cap ∧ cap ≤ 9223372036854775807 ∧ Rd w 1 A ps.length (pv ps) ∧ (A = none → ps.length = 0 ∧ cap = 0) ∧ ∀ a, A = some a → a.spot = none ∧ base ≤ a.block := by
  obtain ⟨_, h⟩ := h
  rcases h with ⟨rfl, h0⟩ | ⟨g, cap, cur, rfl, hb, hg, hc, hm, hs, ht⟩
  · obtain rfl := List.eq_nil_of_length_eq_zero h0
    exact ⟨none, 0, rfl, Nat.le_refl _, by omega, Rd.nil_, (fun _ => ⟨rfl, rfl⟩), (fun a e => by cases e)⟩
  · refine ⟨some ⟨g, 0, none⟩, cap, rfl, hc, hm, ⟨by simp [pv], fun _ => ⟨g, 0, rfl, (Array.getElem?_eq_some_iff.1 hg).1, fun j u hu => ?_⟩⟩, (fun e => by cases e), (fun a e => by injection e with e; subst e; exact ⟨rfl, hb⟩)⟩
    rw [cell_of_row w g _ cur _ _ hg, Nat.zero_add]
    rw [← ht, List.getElem?_take] at hu
    split at hu
    · simpa using hu
    · cases hu

/-- A table in memory: its own block, where its pieces are told, the pieces. -/
structure Tbl where
  g : Nat
  P : Option Addr
  cap : Nat
  ps : List Part
def Tbl.val (T : Tbl) : Value := .pointer (some ⟨T.g, 0, none⟩)
def Tbl.L (T : Tbl) : List (List UInt8) := partsL T.ps
structure Tbl.ok (T : Tbl) (w : World) : Prop where
  cells : blk w T.g = #[.slice T.P T.ps.length T.cap, .int .i64 (partsL T.ps).length]
  rd : Rd w 1 T.P T.ps.length (pv T.ps)
  each : ∀ p ∈ T.ps, p.good w ∧ 0 < p.d.length
  small : (partsL T.ps).length ≤ 1000000
/-- The blocks that it is made of. -/
def Tbl.uses (T : Tbl) (b : Nat) : Prop := b = T.g ∨ (0 < T.ps.length ∧ ∃ a, T.P = some a ∧ a.block = b) ∨ ∃ p ∈ T.ps, ∃ a, p.A = some a ∧ a.block = b
section
variable {T : Tbl} {w w' : World}
set_option maxRecDepth 3000 in
theorem Tbl.ok.count (h : T.ok w) : T.ps.length ≤ (partsL T.ps).length := full_count fun p hp => (h.each p hp).2
set_option maxRecDepth 3000 in
theorem Tbl.ok.grows (h : T.ok w) (hg : Grows w w') : T.ok w' := by
  refine ⟨?_, h.rd.grows hg, fun p hp => ⟨(h.each p hp).1.grows hg, (h.each p hp).2⟩, h.small⟩
  obtain ⟨m, rfl⟩ := hg
  rw [blk_more _ _ _ (Blk.inHeap h.cells (by simp))]
  exact h.cells
set_option maxRecDepth 3000 in
theorem Rd.lt {size n : Nat} {A : Option Addr} {xs : List Value} (h : Rd w size A n xs) (hn : 0 < n) : ∀ a, A = some a → a.block < w.heap.size := by
  intro a ha
  obtain ⟨b, o, e, hb, _⟩ := h.2 hn
  rw [ha] at e; injection e with e; subst e; exact hb
set_option maxRecDepth 3000 in
theorem Tbl.ok.lt (h : T.ok w) (b : Nat) (hb : T.uses b) : b < w.heap.size := by
  rcases hb with rfl | ⟨hn, a, ha, rfl⟩ | ⟨p, hp, a, ha, rfl⟩
  · exact Blk.inHeap h.cells (by simp)
  · exact h.rd.lt hn a ha
  · exact (h.each p hp).1.1.1.lt (h.each p hp).2 a ha
set_option maxRecDepth 3000 in
theorem Rd.same {size n : Nat} {A : Option Addr} {xs : List Value} (h : Rd w size A n xs) (hk : ∀ a, A = some a → 0 < n → w'.heap[a.block]? = w.heap[a.block]?) : Rd w' size A n xs := by
  refine ⟨h.1, fun hn => ?_⟩
  obtain ⟨b, o, e, hb, hc⟩ := h.2 hn
  have hk := hk _ e hn
  refine ⟨b, o, e, ?_, fun j u hu => ?_⟩
  · have : (w.heap[b]?).isSome := by simp [hb]
    rw [← hk] at this
    simpa using this
  · rw [World.cell?_of_block (a := ⟨b, o + j, none⟩) hk]
    exact hc j u hu
set_option maxRecDepth 3000 in
/-- What it is made of stays: so does it. -/
theorem Tbl.ok.same (h : T.ok w) (hk : ∀ b, T.uses b → w'.heap[b]? = w.heap[b]?) : T.ok w' := by
  refine ⟨?_, h.rd.same fun a ha hn => hk _ (.inr (.inl ⟨hn, a, ha, rfl⟩)), fun p hp => ⟨⟨⟨(h.each p hp).1.1.1.same fun a ha hn => hk _ (.inr (.inr ⟨p, hp, a, ha, rfl⟩)), (h.each p hp).1.1.2⟩, (h.each p hp).1.2⟩, (h.each p hp).2⟩, h.small⟩
  have := hk T.g (.inl rfl)
  unfold blk
  rw [this]
  exact h.cells
set_option maxRecDepth 3000 in
theorem Part.cutAt_good {p : Part} (h : p.good w) (a b : Nat) (hab : a < b) (hb : b ≤ p.d.length) : (p.cutAt a b).good w ∧ (p.cutAt a b).d.length = b - a := by
  have hl : (p.cutAt a b).d.length = b - a := by simp [Part.cutAt]; omega
  obtain ⟨⟨h1, h2⟩, h3, h4⟩ := h
  obtain ⟨b0, o0, e, hb0, hc⟩ := h1.2 (by omega)
  refine ⟨⟨⟨⟨by simp [lv], fun hn => ⟨b0, o0 + a, by simp [Part.cutAt, e], hb0, fun j u hu => ?_⟩⟩, fun hn => ?_⟩, by rw [hl]; simp [Part.cutAt], by simp only [Part.cutAt]; omega⟩, hl⟩
  · rw [Nat.add_assoc]
    refine hc (a + j) u ?_
    have hj : j < b - a := by
      have := (List.getElem?_eq_some_iff.1 hu).1
      rw [lv_length, hl] at this; exact this
    rw [← hu]
    simp only [Part.cutAt, lv, List.map_take, List.map_drop]
    rw [List.getElem?_take_of_lt hj, List.getElem?_drop]
  · simp [Part.cutAt, e] at hn
end

set_option maxRecDepth 3000 in
set_option maxHeartbeats 1000000 in
theorem cut_any (p : Part) (a b : Nat) (w : World) (hp : p.good w) (hab : a < b) (hb : b ≤ p.d.length) :
    Calls Try.prog 86 #[.slice p.A p.d.length p.cap, .int .i64 a, .int .i64 b] w fun e w' => e = .returned (p.cutAt a b).val ∧ w = w' := by
  obtain ⟨b0, o0, e, hb0, hc⟩ := hp.1.1.2 (by omega)
  have hl := (Part.cutAt_good hp a b hab hb).2
  have hv : (p.cutAt a b).val = .slice (some ⟨b0, o0 + a, none⟩) (b - a) (b - a) := by
    unfold Part.val
    rw [hl]
    simp [Part.cutAt, e]
  have hpc := hp.2.1
  have hp63 := hp.2.2
  have HV := Lib.hid hv
  rw [e]
  clear hv hl hc hp e
  generalize p.d.length = n at *
  generalize p.cap = cap at *
  go_enter Try.func86, Try.ntmps86
  go_wp2_with fail
  go_ret
  exact ⟨by rw [HV.out]; rfl, rfl⟩

/-- What of answers: a table of the parts that are not empty. -/
def OfPost (ps : List Part) (w : World) (e : Ending) (w' : World) : Prop := ∃ T : Tbl, e = .returned T.val ∧ T.ok w' ∧ T.ps = fullV ps ∧ w.heap.size ≤ T.g ∧ (∀ a, T.P = some a → w.heap.size ≤ a.block) ∧ Grows w w'
set_option maxRecDepth 3000 in
theorem OfPost.uses {T : Tbl} {ps : List Part} {n : Nat} (h1 : T.ps = fullV ps) (h2 : n ≤ T.g) (h3 : ∀ a, T.P = some a → n ≤ a.block) (b : Nat) (h : T.uses b) : n ≤ b ∨ ∃ p ∈ ps, 0 < p.d.length ∧ ∃ a, p.A = some a ∧ a.block = b := by
  rcases h with rfl | ⟨_, a, ha, rfl⟩ | ⟨p, hp, a, ha, rfl⟩
  · exact .inl h2
  · exact .inl (h3 a ha)
  · rw [h1] at hp
    exact .inr ⟨p, (fullV_mem hp).1, (fullV_mem hp).2, a, ha, rfl⟩

set_option maxRecDepth 3000 in
theorem set_two {w : World} {g : Nat} {a b c d : Value} (h : blk w g = #[a, b]) : (w.setCell ⟨g, 0, none⟩ c).setCell ⟨g, 1, none⟩ d = setBlk w g #[c, d] := by
  have e : #[a, b].setIfInBounds 0 c = #[c, b] := rfl
  rw [Blk.set h (by simp), e, Blk.set (c := #[c, b]) (Blk.get _ h (by simp)) (by simp), Blk.set_set]
  rfl
set_option maxRecDepth 3000 in
set_option maxHeartbeats 2000000 in
theorem of_any (A : Option Addr) (cap : Nat) (ps : List Part) (w : World) (hA : Rd w 1 A ps.length (pv ps)) (hps : ∀ p ∈ ps, p.good w) (hl : (partsL ps).length ≤ 1000000) (hn : ps.length ≤ 2000000) :
    Calls Try.prog 68 #[.slice A ps.length cap] w (OfPost ps w) := by
  obtain ⟨i0, hi, hz0, hz1, hz2⟩ := info_parts infoPiece
  have HP := Lib.hid hps
  clear hps
  go_enter Try.func68, Try.ntmps68
  go_wp2_with fail
  go_loopg [5, 10] ps.length (fun q _ i wr => ∃ (k : Nat) (v : Value), q + k = ps.length ∧ i = .int .i64 k ∧ blk wr w.heap.size = #[v, .int .i64 (partsL (ps.take k)).length] ∧ wr.ownsRow (w.heap.size + 1) 114 1 v (fullV (ps.take k)).length (pv (fullV (ps.take k))) ∧ Below w.heap.size w wr ∧ w.heap.size < wr.heap.size)
  case atStart => exact ⟨0, .slice none 0 0, by omega, rfl, by simp [go_sem, partsL], World.ownsRow_nil _ _ _ _, (Below.refl _ _).alloc (Nat.le_refl _) _, by simp⟩
  case round =>
    obtain ⟨k, v, hq, rfl, hblk, hrow, hB, hgs⟩ := hrel
    have HQ := Lib.hid hq
    have hkl : k ≤ ps.length := by omega
    clear hq
    have hsum := partsL_le ps k
    have hfl := fullV_le (ps.take k)
    rw [List.length_take, Nat.min_eq_left hkl] at hfl
    by_cases h1 : k < ps.length
    · obtain ⟨b, o, rfl, hb, ec⟩ := (hA.grows (Grows.of_below hB)).part k h1
      have hb : InHeap b wr := hb
      have hT := Lib.hid (partsL_take ps k h1)
      have hF := Lib.hid (fullV_take ps k h1)
      have hs2 := partsL_le ps (k + 1)
      rw [partsL_take ps k h1, List.length_append] at hs2
      obtain ⟨A1, cap1, rfl⟩ := own_form hrow
      have e0 := Blk.cell hblk (by simp) 0
      have e1 := Blk.cell hblk (by simp) 1
      have hix := Blk.inHeap hblk (by simp)
      have hf0 := Blk.free hblk (by simp) 0
      have hf1 := Blk.free hblk (by simp) 1
      simp only [List.size_toArray, List.length_cons, List.length_nil, Nat.zero_add, Nat.reduceAdd, Nat.reduceLT, getElem?_pos, List.getElem_toArray, List.getElem_cons_succ, List.getElem_cons_zero] at e0 e1
      by_cases h2 : 0 < ps[k].d.length
      · go_wp2_with (at_builtin; refine wpList_append_own _ rfl (.tmp 21) (.tmp 23) 110 rfl (w.heap.size + 1) 114 i0 (.slice none 0 0) 1 24 Try.underlying110 hi hz0 hz1 hz2 rfl (by decide) _ _ _ rfl (hrow.alloc _) ⟨wr.heap.size, 0, none⟩ 1 1 [.slice ps[k].A ps[k].d.length ps[k].cap] rfl rfl ?c2 (by simp [Value.oneCell']) (by unfold maxLen; omega) (by omega) (by simp; omega) ?_; rotate_left; intro v' w1 hown' hgrow _; obtain ⟨A', cap', rfl⟩ := own_form hown'; have hk1 := blk_grown1 hgrow hblk hgs (own_past hrow (by omega)); have hf0 := Blk.free hk1 (by simp) 0; have hf1 := Blk.free hk1 (by simp) 1; have hi1 := Blk.inHeap hk1 (by simp); have hx0 := Blk.cell hk1 (by simp) 0; have hx1 := Blk.cell hk1 (by simp) 1; have hb1 := (hB.alloc hB.size (.cells #[.slice ps[k].A ps[k].d.length ps[k].cap] 114)).grown hgrow (by have := hB.size; simp; omega) (fun j hj => by have := (hrow.lt j hj).1; omega); clear hgrow; simp only [List.size_toArray, List.length_cons, List.length_nil, Nat.zero_add, Nat.reduceAdd, Nat.reduceLT, getElem?_pos, List.getElem_toArray, List.getElem_cons_succ, List.getElem_cons_zero] at hx0 hx1)
        case c2 =>
          intro j u hu
          match j, hu with
          | 0, hu => simp at hu; subst hu; simp [go_sem]
          | j + 1, hu => simp at hu
        have HK := Lib.hid hk1
        go_roundg (gk - 1)
        case measure => have := HQ.out; omega
        case rel =>
          refine ⟨k + 1, .slice A' ((fullV (ps.take k)).length + 1) cap', by have := HQ.out; omega, by go_num, ?_, ?_, ?_, ?_⟩
          · rw [set_two HK.out, Blk.get _ HK.out (by simp), hT.out, List.length_append]; go_num
          · rw [set_two HK.out, hF.out, if_pos h2, List.length_append, ← pv_append]; exact own_setBlk hown' (by omega)
          · rw [set_two HK.out]; exact below_setBlk hb1 (Nat.le_refl _)
          · rw [set_two HK.out]; rw [size_setBlk]; exact hi1
      · have h0 : ps[k].d.length = 0 := by omega
        go_wp2_with fail
        go_roundg (gk - 1)
        case measure => have := HQ.out; omega
        case rel => exact ⟨k + 1, _, by have := HQ.out; omega, by go_num, by rw [hT.out, List.length_append, h0]; exact hblk, by rw [hF.out, if_neg h2, List.append_nil]; exact hrow, hB, hgs⟩
    · have hk : ps.take k = ps := List.take_of_length_le (by omega)
      rw [hk] at hblk hrow
      clear hk
      obtain ⟨A1, cap1, rfl, hc1, hc2, hR, hn1, hs1⟩ := own_parts hrow
      have hg := Grows.of_below hB
      have HB := Lib.hid hblk
      clear hblk
      go_wp2_with fail
      go_ret
      exact ⟨⟨w.heap.size, A1, cap1, fullV ps⟩, rfl, ⟨by rw [fullV_lines]; exact HB.out, hR, fun p hp => ⟨(HP.out p (fullV_mem hp).1).grows hg, (fullV_mem hp).2⟩, by rw [fullV_lines]; exact hl⟩, rfl, Nat.le_refl _, fun a ha => by have := (hs1 a ha).2; omega, hg⟩
end Go.Proofs.Ythanghgfakibnaa
