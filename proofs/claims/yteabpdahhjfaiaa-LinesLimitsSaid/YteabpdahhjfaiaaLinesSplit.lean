/-
  Lines: the walk of Split.
-/
import Derived.Test.YteabpdahhjfaiaaLinesCut
import Derived.RangeFuncBox
import Derived.Maps.AppendAt
import Derived.RegionIn
namespace Go.Proofs.Yteabpdahhjfaiaa
open Go.RowKit Go.Shelf

theorem infoStr : (Try.prog.info? 9).map (fun i => (i.zero, i.size, i.bytes)) = some (some (.string ⟨#[]⟩), 1, 16) := by kernel_rfl

theorem itemsL_length (s : List UInt8) : (itemsL s).length ≤ s.length := by
  induction s with
  | nil => simp [itemsL]
  | cons c s ih =>
    unfold itemsL
    split
    · simp; omega
    · split <;> rename_i e <;> rw [e] at ih <;> simp at ih ⊢
      omega
/-- The strings of the first k items. -/
def firstV (s : List UInt8) (k : Nat) : List Value := ((itemsL s).take k).map fun x => .string (tx x.1)
/-- Whether the last of the first k items has an end. -/
def endV (s : List UInt8) (k : Nat) : Bool := (((itemsL s).take k).getLast?.map (·.2)).getD true
theorem firstV_succ (s : List UInt8) (k : Nat) (x : List UInt8 × Bool) (h : (itemsL s)[k]? = some x) : firstV s (k + 1) = firstV s k ++ [.string (tx x.1)] := by
  unfold firstV
  rw [List.take_add_one, h]
  simp
theorem endV_succ (s : List UInt8) (k : Nat) (x : List UInt8 × Bool) (h : (itemsL s)[k]? = some x) : endV s (k + 1) = x.2 := by
  unfold endV
  rw [List.take_add_one, h]
  simp
theorem firstV_all (s : List UInt8) : firstV s (itemsL s).length = ((linesL s).map tx).map Value.string := by
  unfold firstV linesL
  rw [List.take_length]
  simp
theorem endV_all (s : List UInt8) : endV s (itemsL s).length = endedL s := by
  unfold endV endedL
  rw [List.take_length]

/-- Between two rounds of Split. -/
def SplitI (w : World) (s : List UInt8) (k : Nat) (W : World) : Prop :=
  (∃ v, Boxed W w.heap.size 22 v ∧ W.ownsRow (w.heap.size + 3) 9 1 v k (firstV s k)) ∧ Boxed W (w.heap.size + 1) 4 (.bool (endV s k)) ∧ (∃ v, Boxed W (w.heap.size + 2) 9 v) ∧ Below w.heap.size w W ∧ w.heap.size + 5 ≤ W.heap.size
/-- What turns one block from w.heap.size + 3 on that holds no cells leaves it so. -/
theorem SplitI.kept {w : World} {s : List UInt8} {k : Nat} {W W' : World} {l : Nat} (h : SplitI w s k W) (hg : W.grownBy W' (some l)) (hl : w.heap.size + 3 ≤ l) (ho : ∃ o : Obj, W.heap[l]? = some o ∧ o.isCells = false) : SplitI w s k W' := by
  obtain ⟨⟨v, hv, hr⟩, he, ⟨t, ht⟩, hb, hz⟩ := h
  refine ⟨⟨v, hv.kept hg (by simp; omega), hr.kept hg ?_⟩, he.kept hg (by simp; omega), ⟨t, ht.kept hg (by simp; omega)⟩, hb.grown hg hb.size (fun j e => by cases e; omega), Nat.le_trans hz hg.size⟩
  rcases hr.2 with ⟨rfl, _⟩ | ⟨g, cap, cur, rfl, _, hgb, _⟩
  · exact .inl rfl
  · refine .inr fun e => ?_
    obtain ⟨o, h1, h2⟩ := ho
    simp [Value.ownBlock] at e
    subst e
    rw [hgb] at h1
    cases h1
    cases h2
theorem SplitI.text {w : World} {s : List UInt8} {k : Nat} {W : World} (v : Value) (h : SplitI w s k W) : SplitI w s k (W.setCell ⟨w.heap.size + 2, 0, none⟩ v) := by
  obtain ⟨⟨u, hv, hr⟩, he, ⟨t, ht⟩, hb, hz⟩ := h
  have hg := grownBy_setCell' W (w.heap.size + 2) v
  refine ⟨⟨u, hv.kept hg (by simp), hr.kept hg ?_⟩, he.kept hg (by simp), ⟨v, ht.set v⟩, hb.setCell (p := ⟨w.heap.size + 2, 0, none⟩) (by simp) _, Nat.le_trans hz hg.size⟩
  rcases hr.2 with ⟨rfl, _⟩ | ⟨g, cap, cur, rfl, hbase, hgb, _⟩
  · exact .inl rfl
  · refine .inr fun e => ?_
    simp [Value.ownBlock] at e
    omega
theorem SplitI.drew {w : World} {s : List UInt8} {k : Nat} {W : World} (m : Nat) (h : SplitI w s k W) : SplitI w s k (W.drewN m) := by
  obtain ⟨⟨u, hv, hr⟩, he, ⟨t, ht⟩, hb, hz⟩ := h
  exact ⟨⟨u, hv, hr⟩, he, ⟨t, ht⟩, ⟨hb.os, hb.tape, hb.output, hb.size, hb.block⟩, hz⟩

theorem row_not {W : World} {base k : Nat} {v : Value} {xs : List Value} (hr : W.ownsRow base 9 1 v k xs) {j : Nat} {o : Obj} (ho : W.heap[j]? = some o) (hc : o.isCells = false) : some j ≠ v.ownBlock := by
  rcases hr.2 with ⟨rfl, _⟩ | ⟨g, cap, cur, rfl, _, hgb, _⟩
  · simp [Value.ownBlock]
  · intro e
    simp [Value.ownBlock] at e
    subst e
    rw [hgb] at ho
    cases ho
    cases hc
theorem row_past {W : World} {base k : Nat} {v : Value} {xs : List Value} (hr : W.ownsRow base 9 1 v k xs) {j : Nat} (hj : j < base) : some j ≠ v.ownBlock := by
  rcases hr.2 with ⟨rfl, _⟩ | ⟨g, cap, cur, rfl, hb, _⟩
  · simp [Value.ownBlock]
  · simp [Value.ownBlock]; omega
theorem split_step {w W w1 : World} {s : List UInt8} {k : Nat} {x : List UInt8 × Bool} {v v' t : Value} {tmp : Obj} (hx : (itemsL s)[k]? = some x) (hv : Boxed W w.heap.size 22 v) (hrow : W.ownsRow (w.heap.size + 3) 9 1 v k (firstV s k))
    (he : Boxed W (w.heap.size + 1) 4 (.bool (endV s k))) (ht : Boxed W (w.heap.size + 2) 9 t) (hB : Below w.heap.size w W) (hz : w.heap.size + 5 ≤ W.heap.size) {d : Option (List Deferred)} (hd : W.heap[w.heap.size + 3]? = some (.deferred d)) {r : Loop} (hr : W.heap[w.heap.size + 4]? = some (.loop r))
    (hown : w1.ownsRow (w.heap.size + 3) 9 1 v' (k + 1) (firstV s k ++ [.string (tx x.1)])) (hgrow : (W.alloc tmp).grownBy w1 v.ownBlock) :
    Boxed w1 w.heap.size 22 v ∧ Boxed w1 (w.heap.size + 1) 4 (.bool (endV s k)) ∧ SplitI w s (k + 1) ((w1.setCell ⟨w.heap.size, 0, none⟩ v').setCell ⟨w.heap.size + 1, 0, none⟩ (.bool x.2)) ∧
      ((w1.setCell ⟨w.heap.size, 0, none⟩ v').setCell ⟨w.heap.size + 1, 0, none⟩ (.bool x.2)).heap[w.heap.size + 3]? = W.heap[w.heap.size + 3]? ∧ ((w1.setCell ⟨w.heap.size, 0, none⟩ v').setCell ⟨w.heap.size + 1, 0, none⟩ (.bool x.2)).heap[w.heap.size + 4]? = W.heap[w.heap.size + 4]? := by
  have hsz : (W.alloc tmp).heap.size = W.heap.size + 1 := World.size_alloc _ _
  have hb1 : Below w.heap.size w w1 := (hB.alloc hB.size tmp).grown hgrow (by have := hB.size; simp; omega) (fun j hj => by have := (hrow.lt j hj).1; omega)
  have v1 : Boxed w1 w.heap.size 22 v := (hv.alloc tmp).kept hgrow (row_past hrow (by omega))
  have e1 : Boxed w1 (w.heap.size + 1) 4 (.bool (endV s k)) := (he.alloc tmp).kept hgrow (row_past hrow (by omega))
  have t1 : Boxed w1 (w.heap.size + 2) 9 t := (ht.alloc tmp).kept hgrow (row_past hrow (by omega))
  have g1 := grownBy_setCell' w1 w.heap.size v'
  have g2 := grownBy_setCell' (w1.setCell ⟨w.heap.size, 0, none⟩ v') (w.heap.size + 1) (.bool x.2)
  have h1 : w1.heap.size = (w1.setCell ⟨w.heap.size, 0, none⟩ v').heap.size := by simp
  have hw1 : W.heap.size + 1 ≤ w1.heap.size := by have := hgrow.size; omega
  have hrow2 : ((w1.setCell ⟨w.heap.size, 0, none⟩ v').setCell ⟨w.heap.size + 1, 0, none⟩ (.bool x.2)).ownsRow (w.heap.size + 3) 9 1 v' (k + 1) (firstV s k ++ [.string (tx x.1)]) := by
    have := hown.kept g1 (.inr (Ne.symm (row_past hown (by omega))))
    exact this.kept g2 (.inr (Ne.symm (row_past this (by omega))))
  have keep : ∀ j, w.heap.size + 3 ≤ j → j < W.heap.size → some j ≠ v.ownBlock → ((w1.setCell ⟨w.heap.size, 0, none⟩ v').setCell ⟨w.heap.size + 1, 0, none⟩ (.bool x.2)).heap[j]? = W.heap[j]? := by
    intro j hj hlt hne
    rw [g2.block j (by omega) (by simp; omega), g1.block j (by omega) (by simp; omega), hgrow.block j (by omega) hne, Below.heap_alloc _ _ _ hlt]
  refine ⟨v1, e1, ⟨⟨v', (v1.set v').kept g2 (by simp), by rw [firstV_succ s k x hx]; exact hrow2⟩, ?_, ⟨t, (t1.kept g1 (by simp)).kept g2 (by simp)⟩, (hb1.setCell (p := ⟨w.heap.size, 0, none⟩) (Nat.le_refl _) _).setCell (p := ⟨w.heap.size + 1, 0, none⟩) (by simp) _, by simp; omega⟩,
    keep _ (by omega) (by omega) (row_not hrow hd rfl), keep _ (by omega) (by omega) (row_not hrow hr rfl)⟩
  rw [endV_succ s k x hx]
  exact (e1.kept g1 (by simp)).set _

theorem split_end {W2 : World} {ao : Option Addr} {n' cap : Nat} {tm : Array Value} (s : List UInt8) (w : World) (v2 : Boxed W2 w.heap.size 22 (.slice ao n' cap)) (e2 : Boxed W2 (w.heap.size + 1) 4 (.bool (endV s (itemsL s).length)))
    (r2 : W2.ownsRow (w.heap.size + 3) 9 1 (.slice ao n' cap) (itemsL s).length (firstV s (itemsL s).length)) (b2 : Below w.heap.size w W2) (k2 : W2.heap[w.heap.size + 3]? = some (.deferred (some [])))
    (h2 : tm[2]?.getD undef = .pointer (some ⟨w.heap.size, 0, none⟩) := by rfl) (h3 : tm[3]?.getD undef = .pointer (some ⟨w.heap.size + 1, 0, none⟩) := by rfl) :
    bodyPostM Fence.wide 5 Try.prog Try.f10 (fun e W' => ∃ v, e = .returned (.tuple #[v, .bool (endedL s)]) ∧ W'.ownsRow (w.heap.size + 3) 9 1 v (linesL s).length (((linesL s).map tx).map Value.string) ∧ Below w.heap.size w W') .ret
      { tmps := tm, defers := [{ target := .collected (w.heap.size + 3), args := #[] }] } W2.drew := by
  have hg := grownBy_putObj' W2.drew (w.heap.size + 3) (.deferred none)
  have v3 : Boxed (W2.drew.putObj (w.heap.size + 3) (.deferred none)) w.heap.size 22 (.slice ao n' cap) := Boxed.kept (W := W2.drew) v2 hg (by simp)
  have e3 : Boxed (W2.drew.putObj (w.heap.size + 3) (.deferred none)) (w.heap.size + 1) 4 (.bool (endV s (itemsL s).length)) := Boxed.kept (W := W2.drew) e2 hg (by simp)
  have b3 : Below w.heap.size w (W2.drew.putObj (w.heap.size + 3) (.deferred none)) := (Below.drew b2).grown hg (Below.drew b2).size (fun j e => by cases e; omega)
  have r3 : (W2.drew.putObj (w.heap.size + 3) (.deferred none)).ownsRow (w.heap.size + 3) 9 1 (.slice ao n' cap) (itemsL s).length (firstV s (itemsL s).length) := ownsRow_putObj (W := W2.drew) r2 _ (k2 : W2.drew.heap[w.heap.size + 3]? = _) rfl
  rw [firstV_all] at r3
  refine ⟨by simp, .inl ⟨_, _, rfl, run_takeDeferred (k2 : W2.drew.heap[w.heap.size + 3]? = _), ?_⟩⟩
  refine ⟨.tuple #[.slice ao n' cap, .bool (endedL s)], ?_, _, rfl, by unfold linesL at r3 ⊢; simpa using r3, b3⟩
  have c3 := v3.cell
  have c4 := e3.cell
  rw [endV_all] at c4
  generalize W2.drew.putObj (w.heap.size + 3) (.deferred none) = W4 at c3 c4 ⊢
  simp [results, Try.results10, go_sem, h2, h3, c3, c4]
attribute [local go_sem] Oper.semAt_some
set_option maxRecDepth 100000 in
set_option maxHeartbeats 2000000 in
theorem split_in (s : List UInt8) (hs : s.length ≤ 8796093022000) (w : World) :
    CallsIn Fence.wide 5 Try.prog 10 #[.string (tx s)] w fun e W' => ∃ v, e = .returned (.tuple #[v, .bool (endedL s)]) ∧ W'.ownsRow (w.heap.size + 3) 9 1 v (linesL s).length (((linesL s).map tx).map Value.string) ∧ Below w.heap.size w W' := by
  obtain ⟨i0, hi, hz0, hz1, hz2⟩ := info_parts infoStr
  refine callsIn_of_wp_marks Try.func10 rfl trivial ?_ rfl
  simp only [Try.ntmps10, List.size_toArray, List.length_cons, List.length_nil, Nat.reduceAdd, Nat.reduceSub, Array.replicate_succ, Array.replicate_zero, List.push_toArray, List.append_toArray, List.nil_append, List.cons_append]
  gi_wp2_with fail
  refine ⟨trivial, ?_⟩
  refine (callsIn_wide.2 (each_any (tx s) _)).mono ?_
  rintro e w' ⟨rfl, rfl⟩
  gi_wp2
  refine range_all (B := w.heap.size + 3) (by simp) (gf := 32) (lb := #[.pointer (some ⟨w.heap.size + 2, 0, none⟩)]) rfl (enters_of Try.func32 (by kernel_rfl) rfl) (fun x : List UInt8 × Bool => #[.string (tx x.1), .bool x.2]) (fun _ => rfl) (itemsL s) (SplitI w s) ?hI ?h0 ?seq
    (fun x => { tmps := #[.string (tx s), undef, .pointer (some ⟨w.heap.size, 0, none⟩), .pointer (some ⟨w.heap.size + 1, 0, none⟩), .string (tx x.1), .bool x.2, .string (tx s), .func (.func 32) #[] #[.pointer (some ⟨w.heap.size + 2, 0, none⟩)], .string (tx x.1), .bool x.2, undef, undef, undef, undef, undef, undef, undef], defers := [] }) ?assign ?body ?done
  case hI =>
    intro k W l o o' hl ho hc h
    exact h.kept (grownBy_putObj' W l o') (by simpa using hl) ⟨o, ho, hc⟩
  case h0 =>
    intro d r
    have b0 := Boxed.new w 22 (.slice none 0 0)
    have b1 := Boxed.new (w.alloc (.cells #[.slice none 0 0] 22)) 4 (.bool true)
    have b2 := Boxed.new ((w.alloc (.cells #[.slice none 0 0] 22)).alloc (.cells #[.bool true] 4)) 9 (.string (tx s))
    simp only [World.size_alloc] at b1 b2
    refine ⟨⟨_, (((b0.alloc _).alloc _).alloc _).alloc _, World.ownsRow_nil _ _ _ _⟩, ((b1.alloc _).alloc _).alloc _, ⟨_, (b2.alloc _).alloc _⟩, ?_, by simp⟩
    exact (((((Below.refl _ w).alloc (Nat.le_refl _) _).alloc (by simp) _).alloc (by simp; omega) _).alloc (by simp; omega) _).alloc (by simp; omega) _
  case seq =>
    rintro l W J rfl hJI hJ ⟨d, r, rfl⟩ hY h0
    refine each1_in 4 (by omega) _ (w.heap.size + 2) s (by omega) J ?_ ?_ ?_ hY _ ?_ h0
    · intro k W h
      exact (hJI k W h).2.2.1
    · intro k W v h
      have hg := grownBy_setCell' W (w.heap.size + 2) v
      have hz := (hJI k W h).2.2.2.2
      refine hJ k W _ h ((hJI k W h).text v) (hg.block _ (by omega) (by simp)) (hg.block _ (by omega) (by simp))
    · intro k W m h
      exact hJ k W _ h ((hJI k W h).drew m) rfl rfl
    · have b2 := Boxed.new ((w.alloc (.cells #[.slice none 0 0] 22)).alloc (.cells #[.bool true] 4)) 9 (.string (tx s))
      simp only [World.size_alloc] at b2
      exact ((b2.alloc _).alloc _).cell
  case assign =>
    intro l x W K hK
    gi_wp2
    exact hK
  case body =>
    rintro l k x W hx ⟨⟨v, hv, hrow⟩, he, ⟨t, ht⟩, hB, hz⟩ hlt ⟨d, hd⟩ ⟨r, hr⟩
    have hkl : k < (itemsL s).length := (List.getElem?_eq_some_iff.1 hx).1
    have hil := itemsL_length s
    have hc := hv.cell
    have HX := Lib.hid hx
    clear hx
    gi_wp2_with (gi_at_builtin; refine wpListIn_append_own _ rfl _ _ 22 rfl (w.heap.size + 3) 9 i0 (.string ⟨#[]⟩) 1 16 Try.underlying22 hi hz0 hz1 hz2 rfl (by decide) _ _ _ rfl (hrow.alloc _) ⟨W.heap.size, 0, none⟩ 1 1 [.string (tx x.1)] rfl rfl (cell_one_new _ _ _) (by simp [Value.oneCell']) (by unfold maxLen; omega) (by omega) (by have := hB.size; simp; omega) ?_; intro v' w1 hown' hgrow _; obtain ⟨g', cap', rfl⟩ := ownsRow_succ hown'; obtain ⟨q1, q2, hI2, e1, e2⟩ := split_step HX.out hv hrow he ht hB hz hd hr hown' hgrow; have c1 := q1.cell; have f1 := q1.frozen; have c2 := q2.cell; have f2 := q2.frozen)
    exact ⟨hI2, e1, e2⟩
  case done =>
    rintro W ⟨⟨v, hv, hrow⟩, he, ⟨t, ht⟩, hB, hz⟩ hK
    have c1 := hv.cell
    have c2 := he.cell
    have f1 := hv.frozen
    have f2 := he.frozen
    obtain ⟨ao, n', cap, rfl⟩ : ∃ ao n' cap, v = .slice ao n' cap := by
      rcases hrow.2 with ⟨hv', _⟩ | ⟨g, cap, cur, hv', _⟩
      · exact ⟨_, _, _, hv'⟩
      · exact ⟨_, _, _, hv'⟩
    gi_wp2
    gi_region
    gi_wp2
    have g1 := grownBy_setCell' W w.heap.size (.slice ao n' cap)
    have g2 := grownBy_setCell' (W.setCell ⟨w.heap.size, 0, none⟩ (.slice ao n' cap)) (w.heap.size + 1) (.bool (endV s (itemsL s).length))
    have r1 := hrow.kept g1 (.inr (Ne.symm (row_past hrow (by omega))))
    have r2 := r1.kept g2 (.inr (Ne.symm (row_past r1 (by omega))))
    have v2 := (hv.set (.slice ao n' cap)).kept g2 (by simp)
    have e2 := (he.kept g1 (by simp)).set (.bool (endV s (itemsL s).length))
    have b2 := (hB.setCell (p := ⟨w.heap.size, 0, none⟩) (Nat.le_refl _) (.slice ao n' cap)).setCell (p := ⟨w.heap.size + 1, 0, none⟩) (by simp) (.bool (endV s (itemsL s).length))
    have k2 : ((W.setCell ⟨w.heap.size, 0, none⟩ (.slice ao n' cap)).setCell ⟨w.heap.size + 1, 0, none⟩ (.bool (endV s (itemsL s).length))).heap[w.heap.size + 3]? = some (.deferred (some [])) := by
      rw [g2.block _ (by simp; omega) (by simp), g1.block _ (by omega) (by simp)]
      exact hK
    refine split_end (W2 := ((W.setCell ⟨w.heap.size, 0, none⟩ (.slice ao n' cap)).setCell ⟨w.heap.size + 1, 0, none⟩ (.bool (endV s (itemsL s).length)))) s w v2 e2 r2 b2 k2
theorem own_le {w : World} {base base' n : Nat} {v : Value} {xs : List Value} (h : w.ownsRow base 9 1 v n xs) (hb : base' ≤ base) : w.ownsRow base' 9 1 v n xs :=
  ⟨h.1, h.2.elim Or.inl fun ⟨g, cap, cur, hv, hg, r⟩ => Or.inr ⟨g, cap, cur, hv, Nat.le_trans hb hg, r⟩⟩
/-- Split: new memory that holds the text's lines, and whether it has an end. -/
theorem split_any (s : List UInt8) (hs : s.length ≤ 8796093022000) (w : World) :
    Calls Try.prog 10 #[.string (tx s)] w fun e W' => ∃ v, e = .returned (.tuple #[v, .bool (endedL s)]) ∧ W'.ownsRow w.heap.size 9 1 v (linesL s).length (((linesL s).map tx).map Value.string) ∧ Grows w W' :=
  ((callsIn_wide (n := 5)).1 (split_in s hs w)).mono fun _ _ ⟨v, he, hr, hb⟩ => ⟨v, he, own_le hr (by omega), Grows.of_below hb⟩
end Go.Proofs.Yteabpdahhjfaiaa
