/-
  Core: Splice: the walk.
-/
import Derived.Test.YthanghgfakibnaaPk29
import Derived.Test.YthanghgfakibnaaPk09
import Derived.Test.YthanghgfakibnaaPk30
import Derived.Deep.AppendLies
import Derived.IntWalk
namespace Go.Proofs.Ythanghgfakibnaa
open Go.RowKit

attribute [local go_sem ↓] ldMarks_eq stMarks_eq
attribute [local go_sem] loadMarks storeMarks loadMarks_if storeMarks_if coC_size coC_marks coC_overM
section
variable {base : Nat} {ok K : Nat → Prop} {w : World} {g r r2 : Nat} {c : CoV} {tv rv uv wv hv dv : Value} {D : List Spx}
set_option maxRecDepth 3000 in
/-- Nothing that was there has changed. -/
theorem Chg.fresh {p q : Nat → Prop} {a b c : World} (h : Chg p a b) (k : Chg q b c) (hq : ∀ x, q x → a.heap.size ≤ x) : Chg p a c := h.late k (fun x hx e => by have := hq x e; omega)
set_option maxRecDepth 3000 in
theorem own_growsK {w w' : World} {base n size : Nat} {e : TypeId} {v : Value} {xs : List Value} (h : w.ownsRow base e size v n xs) (hg : Grows w w') : w'.ownsRow base e size v n xs := by
  obtain ⟨h1, h2⟩ := h
  refine ⟨h1, h2.elim Or.inl ?_⟩
  rintro ⟨g, cap, cur, hv, hb, hh, r⟩
  obtain ⟨m, rfl⟩ := hg
  exact Or.inr ⟨g, cap, cur, hv, hb, by rw [heap_more w m g (Array.getElem?_eq_some_iff.1 hh).1]; exact hh, r⟩
set_option maxRecDepth 3000 in
theorem Chg.of_grown {w w' : World} {row : Option Nat} (h : w.grownBy w' row) : Chg (fun b => row = some b) w w' :=
  ⟨h.os, h.tape, h.output, h.size, fun b hb hp => h.block b hb fun e => hp e.symm⟩
set_option maxRecDepth 3000 in
/-- append of one element of three cells. -/
theorem wpList_append3 {P : Program} {ops : Array Oper} {rest : List Oper} {o : Oper} {a : Act} {Q : Exit → Act → World → Prop} {w : World} (s x : Operand) (t : TypeId) (base : Nat) (e : TypeId) (i : TypeInfo) (z : Value) (dA : Option Addr) (dC n : Nat) (xs : List Value) (b : Nat) (u0 u1 u2 : Value)
    (hgd : o.guard = none) (ho : o.op = .call { callee := .builtin .append, args := #[s, x], argTypes := #[t, t] }) (ht : P.underlying t = some (.slice e)) (hi : P.info? e = some i) (hz : i.zero = some z) (hsize : i.size = 3) (hby : i.bytes = 40) (hzs : z.cells.size = 3)
    (hs : a.eval s = .slice dA n dC) (hown : w.ownsRow base e 3 (.slice dA n dC) n xs) (hx : a.eval x = .slice (some ⟨b, 0, none⟩) 1 1) (c0 : w.cell? ⟨b, 0, none⟩ = some u0) (c1 : w.cell? ⟨b, 1, none⟩ = some u1) (c2 : w.cell? ⟨b, 2, none⟩ = some u2)
    (o1 : u0.oneCell' = true ∧ u1.oneCell' = true ∧ u2.oneCell' = true) (hn : n ≤ 1000000) (hbase : base ≤ w.heap.size)
    (h : ∀ g cap w', w'.ownsRow base e 3 (.slice (some ⟨g, 0, none⟩) (n + 1) cap) (n + 1) (xs ++ [u0, u1, u2]) → Chg (fun b => (Value.slice dA n dC).ownBlock = some b) w w' → ((Value.slice dA n dC).ownBlock = some g ∨ w.heap.size ≤ g) → wpList P ops Q rest (a.put o.dst (.slice (some ⟨g, 0, none⟩) (n + 1) cap)) w') : wpList P ops Q (o :: rest) a w := by
  refine wpList_append_lies w hgd s x t ho base e i z 3 40 ht hi hz hsize hby hzs (by decide) (.slice dA n dC) n xs hs hown ⟨b, 0, none⟩ 1 1 [u0, u1, u2] hx rfl (fun j u hj => ?_) (fun u hu => ?_) (by decide) (by unfold maxLen; omega) (by omega) hbase _ rfl (fun g cap w' a1 a2 a3 _ => h g cap w' a1 (Chg.of_grown a2) (a3.imp id (fun e => by omega)))
  · rw [add_off, Nat.zero_add]
    match j, hj with
    | 0, hj => simp at hj; subst hj; exact c0
    | 1, hj => simp at hj; subst hj; exact c1
    | 2, hj => simp at hj; subst hj; exact c2
    | j + 3, hj => simp at hj
  · simp at hu
    rcases hu with rfl | rfl | rfl
    · exact o1.1
    · exact o1.2.1
    · exact o1.2.2
set_option maxRecDepth 3000 in
theorem step_append3 {P : Program} {ops : Array Oper} {o : Oper} {a : Act} {K : Act → World → Prop} {Q : Exit → Act → World → Prop} {E : Prop} {w : World} (s x : Operand) (t : TypeId) (base : Nat) (e : TypeId) (i : TypeInfo) (z : Value) (dA : Option Addr) (dC n : Nat) (xs : List Value) (b : Nat) (u0 u1 u2 : Value)
    (hgd : o.guard = none) (ho : o.op = .call { callee := .builtin .append, args := #[s, x], argTypes := #[t, t] }) (ht : P.underlying t = some (.slice e)) (hi : P.info? e = some i) (hz : i.zero = some z) (hsize : i.size = 3) (hby : i.bytes = 40) (hzs : z.cells.size = 3)
    (hs : a.eval s = .slice dA n dC) (hown : w.ownsRow base e 3 (.slice dA n dC) n xs) (hx : a.eval x = .slice (some ⟨b, 0, none⟩) 1 1) (c0 : w.cell? ⟨b, 0, none⟩ = some u0) (c1 : w.cell? ⟨b, 1, none⟩ = some u1) (c2 : w.cell? ⟨b, 2, none⟩ = some u2)
    (o1 : u0.oneCell' = true ∧ u1.oneCell' = true ∧ u2.oneCell' = true) (hn : n ≤ 1000000) (hbase : base ≤ w.heap.size)
    (h : ∀ g cap w', w'.ownsRow base e 3 (.slice (some ⟨g, 0, none⟩) (n + 1) cap) (n + 1) (xs ++ [u0, u1, u2]) → Chg (fun b => (Value.slice dA n dC).ownBlock = some b) w w' → ((Value.slice dA n dC).ownBlock = some g ∨ w.heap.size ≤ g) → K (a.put o.dst (.slice (some ⟨g, 0, none⟩) (n + 1) cap)) w') :
    if Region.wanted o (yielded ops a.tmps) = true then Oper.wp P o a w K Q else E := by
  refine step_append_lies w hgd s x t ho base e i z 3 40 ht hi hz hsize hby hzs (by decide) (.slice dA n dC) n xs hs hown ⟨b, 0, none⟩ 1 1 [u0, u1, u2] hx rfl (fun j u hj => ?_) (fun u hu => ?_) (by decide) (by unfold maxLen; omega) (by omega) hbase _ rfl (fun g cap w' a1 a2 a3 _ => h g cap w' a1 (Chg.of_grown a2) (a3.imp id (fun e => by omega)))
  · rw [add_off, Nat.zero_add]
    match j, hj with
    | 0, hj => simp at hj; subst hj; exact c0
    | 1, hj => simp at hj; subst hj; exact c1
    | 2, hj => simp at hj; subst hj; exact c2
    | j + 3, hj => simp at hj
  · simp at hu
    rcases hu with rfl | rfl | rfl
    · exact o1.1
    · exact o1.2.1
    · exact o1.2.2
set_option maxRecDepth 3000 in
theorem infoSp : (Try.prog.info? 24).map (fun i => (i.zero, i.size, i.bytes)) = some (some (.agg #[.int .i64 0, .int .i64 0, .slice none 0 0]), 3, 40) := by kernel_rfl
set_option maxRecDepth 3000 in
/-- What is known of the cells once the list of splices has grown. -/
theorem nine {ta ua : Value} {W w6 : World} {cur : Int} {ms ms' : List Int} {la rv di uv wv hv dv : Value} {q : Nat → Prop} (hb : blk W g = coC ta cur ms la rv di uv wv hv dv) (hm : ms.length = 26) (hm' : ms'.length = 26) (hc : Chg q W w6) (hq : ¬ q g) :
    w6.cell? ⟨g, 0, none⟩ = some ta ∧ (∀ i, w6.frozen? ⟨g, i, none⟩ = false) ∧ blk (w6.setCell ⟨g, 0, none⟩ ua) g = coC ua cur ms la rv di uv wv hv dv ∧
    (setBlk (w6.setCell ⟨g, 0, none⟩ ua) g (coC ua cur ms' la rv di uv wv hv dv)).cell? ⟨g, 34, none⟩ = some dv ∧ (∀ i, (setBlk (w6.setCell ⟨g, 0, none⟩ ua) g (coC ua cur ms' la rv di uv wv hv dv)).frozen? ⟨g, i, none⟩ = false) ∧
    (∀ dv' : Value, blk ((setBlk (w6.setCell ⟨g, 0, none⟩ ua) g (coC ua cur ms' la rv di uv wv hv dv)).setCell ⟨g, 34, none⟩ dv') g = coC ua cur ms' la rv di uv wv hv dv') := by
  have hz : ∀ {a b c d e f h i : Value} {n : Int} {ms : List Int}, 0 < (coC a n ms b c d e f h i).size := by intros; simp [coC_size]
  have h6 := (hc.blk (Blk.inHeap hb hz) hq).trans hb
  have h7 := (co_put h6 hz 0 ua).trans (coC_set0 _ _ _ _ _ _ _ _ _ _ _ hm)
  have h8 := Blk.get (coC ua cur ms' la rv di uv wv hv dv) h7 hz
  exact ⟨(co_cells h6 hm).1, co_free h6, h7, (co_cells h8 hm').2.2.2.2.2.2.2.2, co_free h8, fun dv' => (co_put h8 hz 34 dv').trans (coC_set34 _ _ _ _ _ _ _ _ _ _ _ hm')⟩
set_option maxRecDepth 3000 in
theorem own_chg5 {w w' : World} {base n size e cap : Nat} {t : TypeId} {xs : List Value} (h : w.ownsRow base t size (.slice (some ⟨e, 0, none⟩) n cap) n xs) (hc : Chg (fun b => b = g) w w') (hne : ¬ e = g) : w'.ownsRow base t size (.slice (some ⟨e, 0, none⟩) n cap) n xs := by
  obtain ⟨h1, h2⟩ := h
  refine ⟨h1, h2.elim Or.inl ?_⟩
  rintro ⟨b, cap, cur, hv2, hb2, hh, rr⟩
  have hbe : e = b := by
    injection hv2 with hv3
    injection hv3 with hv3
    injection hv3
  subst hbe
  exact Or.inr ⟨e, cap, cur, hv2, hb2, by rw [hc.block e (Array.getElem?_eq_some_iff.1 hh).1 hne]; exact hh, rr⟩
set_option maxRecDepth 3000 in
theorem splice_fin {k : Kd} {ta ua : Value} {e : Nat} {cap5 : Nat} {x : Spx} {L' : List (List UInt8)} {dA : Option Addr} {dC : Nat} {W4 W7 W9 : World} {cu : Int} (h0 : CoreM k base ok K w g c ta rv uv wv hv (.slice dA D.length dC) r r2 D) (h : CoreM k base ok K W4 g c ta rv uv wv hv (.slice dA D.length dC) r r2 D)
    (hF : Chg (fun _ => False) w W4) (hl : k.LH ok W4 ua L') (hx : SpIn ok W4 x) (hC7 : Chg (fun b => b = g ∨ (Value.slice dA D.length dC).ownBlock = some b) W4 W7)
    (hown : W7.ownsRow base 24 3 (.slice (some ⟨e, 0, none⟩) (D.length + 1) cap5) (D.length + 1) (D.flatMap Spx.cells ++ x.cells)) (hlie : (Value.slice dA D.length dC).ownBlock = some e ∨ W4.heap.size ≤ e)
    (hb : blk W7 g = coC ua c.s.cur (shiftV c.s.ms x.at_ x.del x.ins.length) (.string (tx c.last)) rv (.bool c.dirty) uv wv hv (.slice (some ⟨e, 0, none⟩) (D.length + 1) cap5))
    (hcu : cu = curV c.s.cur x.v L'.length) (hg : (coSpliced c x.v L').good) (h9 : Grows (W7.setCell ⟨g, 1, none⟩ (.int .i64 cu)) W9) : Moved k base ok K g w (coSpliced c x.v L') W9 := by
  subst hcu
  have hz : ∀ {a b c d e f h i : Value} {n : Int} {ms : List Int}, 0 < (coC a n ms b c d e f h i).size := by intros; simp [coC_size]
  have hC8 : Chg (fun b => b = g) W7 W9 := (chg_one (K := fun b => b = g) rfl).trans (Chg.of_grows h9)
  have hC9 := hC7.trans (hC8.mono fun b _ e => .inl e)
  have hne : ¬ e = g := by
    rcases hlie with h1 | h1
    · exact (h.dK e h1).2.1
    · have := h.lt h.Kg; omega
  have hown9 : W9.ownsRow base 24 3 (.slice (some ⟨e, 0, none⟩) (D.length + 1) cap5) (D.length + 1) (D.flatMap Spx.cells ++ x.cells) := by
    exact own_chg5 hown hC8 hne
  have hb9 : blk W9 g = coC ua (coSpliced c x.v L').s.cur (coSpliced c x.v L').s.ms (.string (tx c.last)) rv (.bool c.dirty) uv wv hv (.slice (some ⟨e, 0, none⟩) (D.length + 1) cap5) :=
    blk_grows ((co_put hb hz 1 _).trans (coC_set1 _ _ _ _ _ _ _ _ _ _ _ (by simp [h.good.s.many]))) hz h9
  have hs4 := hF.size
  have hK9 : Chg K w W9 := (hF.mono (fun _ _ e => e.elim)).trans (hC9.mono fun b _ e => by
    rcases e with rfl | e
    · exact h.Kg
    · exact (h.dK b e).1)
  refine (h.spliced hl hx hC9 hown9 rfl hlie hb9 hg).moved2 hK9 ?_
  rcases hlie with h1 | h1
  · exact .inl ⟨(h.dK e h1).1, h.dis⟩
  · exact .inr (Nat.le_trans hs4 h1)
set_option maxRecDepth 3000 in
theorem min_int (a b : Int) : (if a ≤ b then a else b) = min a b := by omega
set_option maxRecDepth 3000 in
set_option maxHeartbeats 4000000 in
theorem coSplice_any {okI : Nat → Prop} (h : CoreM kI base ok K w g c tv rv uv wv hv dv r r2 D) (at_ del : Int) (I : Option Addr) (ci : Nat) (ins : List (List UInt8)) (ha : I64 at_) (hd : I64 del) (hI : LRd okI w I ci ins) (hl : ∀ s ∈ ins, s.length ≤ 9223372036854775807) (hn : ins.length ≤ 1000000) (hdn : c.did.length ≤ 1000000) :
    Calls Try.prog 23 #[.pointer (some ⟨g, 0, none⟩), .agg #[.int .i64 at_, .int .i64 del, .slice I ins.length ci]] w fun e w' => e = .returned (.int .i64 (coSplice c ⟨at_, del, ins⟩).2) ∧ Moved kI base ok K g w (coSplice c ⟨at_, del, ins⟩).1 w' := by
  have hb := h.cells
  obtain ⟨T, rfl, hT, hTL, hTu⟩ := h.lines
  have hm := h.good.s.many
  obtain ⟨i0, hi, hz0, hz1, hz2⟩ := info_parts infoSp
  obtain ⟨dA, dC, rfl⟩ := own_form h.did
  have hDn : D.length ≤ 1000000 := by rw [← h.didV] at hdn; simpa using hdn
  obtain ⟨q0, q1, -, -, -, -, q32, -, q34⟩ := co_cells hb hm
  have ig := co_in hb
  have HM := Lib.hid h
  cases hw : c.was with
  | none =>
    have hwa := h.was
    rw [hw] at hwa
    obtain ⟨rfl, -⟩ := hwa
    have hV : Hid (coSplice c ⟨at_, del, ins⟩ = (c, 2)) := Lib.hid (by unfold coSplice; rw [hw]; rfl)
    clear h hT hTL hTu hw hm hb
    go_enter Try.func23, Try.ntmps23
    go_wp2_with fail
    (with_reducible refine (coNone_no g T.g _ (by simp [go_sem, ig, q0])).mono ?_)
    rintro e w1 ⟨rfl, rfl⟩
    go_wp2_with fail
    go_ret
    exact ⟨by rw [hV.out]; rfl, by rw [hV.out]; exact HM.out.moved2' ((Grows.refl _).alloc _)⟩
  | some y =>
    have hwa := h.was
    rw [hw] at hwa
    obtain ⟨⟨gs, t, rfl, -⟩, -⟩ := hwa
    have hW := Lib.hid hw
    have HT := Lib.hid hT
    have HTU := Lib.hid hTu
    have HI := Lib.hid hI
    have HL := Lib.hid hl
    have HTL := Lib.hid hTL
    have HA := Lib.hid ha
    have HD := Lib.hid hd
    clear h hT hTL hTu hw hb hl ha hd
    go_enter Try.func23, Try.ntmps23
    go_wp2_with fail
    (with_reducible refine (coNone_no g T.g _ (by simp [go_sem, ig, q0])).mono ?_)
    rintro e w1 ⟨rfl, rfl⟩
    go_wp2_with fail
    go_region_held3 (fun w' => w'.cell? ⟨g, 0, none⟩ = some (.pointer (some ⟨T.g, 0, none⟩)) ∧ w'.cell? ⟨w.heap.size, 0, none⟩ = some (.int .i64 at_) ∧ w'.cell? ⟨w.heap.size, 1, none⟩ = some (.int .i64 del) ∧ w'.cell? ⟨w.heap.size, 2, none⟩ = some (.slice I ins.length ci))
      (first | (simp [go_sem, ig, q0]; done))
      (first | (go_at_call 42; (refine Calls.mono (splice_ptr T _ (HT.out.grows ?_) at_ del I _ ci ins rfl (HI.out.rd.grows ?_) HI.out.nil hn HL.out HA.out HD.out) ?_); (repeat' first | exact Grows.refl _ | refine Grows.more ?_ _ | refine Grows.alloc ?_ _ | refine Grows.drew ?_); rintro e w2 ⟨v, rfl, hv1, hv2, m, rfl⟩; have hv1 := Lib.hid hv1; have hv2 := Lib.hid hv2))
    have hok := spliceV_ok (d := T.L) (a := at_) (e := del) (ins := ins)
    have hVs : Hid (coSplice c ⟨at_, del, ins⟩ = if (spliceV T.L at_ del ins).2 ≠ 0 then (c, (spliceV T.L at_ del ins).2) else (coSpliced c ⟨at_, del, ins⟩ (spliceV T.L at_ del ins).1, 0)) := Lib.hid (by unfold coSplice; rw [hW.out, HTL.out]; rfl)
    have hGd : Hid ((coSplice c ⟨at_, del, ins⟩).1.good) := Lib.hid (HM.out.good.splice ⟨HA.out, HD.out⟩)
    have hSL : Hid (T.L.length ≤ 1000000) := Lib.hid HT.out.small
    generalize spliceV T.L at_ del ins = y at *
    obtain ⟨L', er⟩ := y
    by_cases h0 : er = 0
    · subst h0
      obtain ⟨b1, b2, b3, b4, b5, b6, b7, -⟩ := hok rfl
      obtain ⟨U, rfl, hU, hUL, hUu, -⟩ := hv2.out rfl
      have b7 : L'.length ≤ 2000 := b7
      have hUL : U.L = L' := hUL
      have hV : Hid (coSplice c ⟨at_, del, ins⟩ = (coSpliced c ⟨at_, del, ins⟩ L', 0)) := Lib.hid (by rw [hVs.out]; rfl)
      have HB := Lib.hid (And.intro b1 (And.intro b3 hSL.out))
      have HUL := Lib.hid hUL
      have HUU : Hid (∀ b, U.uses b → ok b ∧ ¬ b = w.heap.size) := Lib.hid (fun b hb => by
        rcases hUu b hb with h1 | h1
        · exact ⟨HTU.out b h1, by have := HT.out.lt b h1; omega⟩
        · exact ⟨HM.out.top b (by simp at h1; omega), by simp at h1; omega⟩)
      have B7 := Lib.hid b7
      clear hok hv1 hv2 hVs b1 b2 b3 b4 b5 b6 b7 hUL hUu hSL
      obtain ⟨w2, hw2⟩ : ∃ W, W = more (w.alloc (.cells #[.int .i64 at_, .int .i64 del, .slice I ins.length ci] 24)) m := ⟨_, rfl⟩
      have hg2 : Hid (Grows (w.alloc (.cells #[.int .i64 at_, .int .i64 del, .slice I ins.length ci] 24)) w2) := Lib.hid (by rw [hw2]; exact Grows.of _ _)
      have x0 : w2.cell? ⟨w.heap.size, 0, none⟩ = some (.int .i64 at_) := by rw [hw2]; simp [go_sem]
      have x1 : w2.cell? ⟨w.heap.size, 1, none⟩ = some (.int .i64 del) := by rw [hw2]; simp [go_sem]
      have x2 : w2.cell? ⟨w.heap.size, 2, none⟩ = some (.slice I ins.length ci) := by rw [hw2]; simp [go_sem]
      have xf : ∀ i, w2.frozen? ⟨w.heap.size, i, none⟩ = false := by intro i; rw [hw2]; simp [go_sem]
      have ix : InHeap w.heap.size w2 := by rw [hw2]; simp [go_sem]
      have HU : Hid (U.ok w2) := Lib.hid (by rw [hw2]; exact hU)
      rw [← hw2]
      clear hw2 hU q0 q1 q32 q34 ig
      go_wp2_with fail
      (with_reducible refine (clone_any I ci ins _ (HI.out.rd.grows (((Grows.refl _).alloc _).trans hg2.out)) (by omega) HI.out.nil).mono ?_)
      rintro e w3 ⟨vv, rfl, hown, hg3⟩
      obtain ⟨A1, c1, rfl, hL1⟩ := LRd.of_own (ok := fun b => w2.heap.size ≤ b) hown (fun b hb => hb)
      have HL1 := Lib.hid hL1
      have HG3 := Lib.hid hg3
      have y0 := cell_grows x0 hg3
      have y1 := cell_grows x1 hg3
      have y2 := cell_grows x2 hg3
      have yf : ∀ i, w3.frozen? ⟨w.heap.size, i, none⟩ = false := by
        obtain ⟨m3, rfl⟩ := hg3
        intro i
        rw [frozen_more _ _ _ ix]
        exact xf i
      clear hown hL1 hg3 x0 x1 x2 xf
      go_wp2_with fail
      obtain ⟨W4, hW4⟩ : ∃ W, W = w3.setCell ⟨w.heap.size, 2, none⟩ (.slice A1 ins.length c1) := ⟨_, rfl⟩
      have hC4 : Chg (fun b => b = w.heap.size) w3 W4 := by rw [hW4]; exact Chg.setCell (p := fun b => b = w.heap.size) (a := ⟨w.heap.size, 2, none⟩) rfl _
      have hF4 : Chg (fun _ => False) w W4 := (Chg.of_grows ((((Grows.refl w).alloc _).trans hg2.out).trans HG3.out)).fresh hC4 (fun b e => by omega)
      have H4 := Lib.hid (HM.out.chg hF4 (fun _ e => e.elim))
      have z0 : W4.cell? ⟨w.heap.size, 0, none⟩ = some (.int .i64 at_) := by rw [hW4, World.cell?_setCell_other _ _ _ _ (by simp)]; exact y0
      have z1 : W4.cell? ⟨w.heap.size, 1, none⟩ = some (.int .i64 del) := by rw [hW4, World.cell?_setCell_other _ _ _ _ (by simp)]; exact y1
      have z2 : W4.cell? ⟨w.heap.size, 2, none⟩ = some (.slice A1 ins.length c1) := by rw [hW4]; exact World.cell?_setCell_same _ _ _ y2
      have ix4 : InHeap w.heap.size W4 := by
        have := hC4.size
        have := HG3.out.below.size
        have : w.heap.size < w2.heap.size := ix
        unfold InHeap; omega
      have HL4 : Hid (LRd (fun b => w2.heap.size ≤ b) W4 A1 c1 ins) := Lib.hid (HL1.out.chg hC4 (fun b _ hb e => by have : w.heap.size < w2.heap.size := ix; omega))
      have HU4 : Hid (U.ok W4) := Lib.hid (by
        have hU3 := HU.out.grows HG3.out
        exact hU3.same fun b hb => hC4.block b (hU3.lt b hb) (HUU.out b hb).2)
      have hbs : Hid (base ≤ W4.heap.size) := Lib.hid (by have := H4.out.low g H4.out.Kg; have := H4.out.lt H4.out.Kg; omega)
      have hdg : Hid (¬ (Value.slice dA D.length dC).ownBlock = some g) := Lib.hid (fun e => (H4.out.dK g e).2.1 rfl)
      have hb4 := H4.out.cells
      obtain ⟨p0, p1, -, -, -, -, -, -, p34⟩ := co_cells hb4 hm
      have ff4 := co_free hb4
      have ig4 := co_in hb4
      have hsl : (shiftV c.s.ms at_ del ins.length).length = 26 := by simp [hm]
      have HF4 := Lib.hid hF4
      have hlU : Hid (kI.LH ok W4 (.pointer (some ⟨U.g, 0, none⟩)) L') := Lib.hid ⟨U, rfl, HU4.out, HUL.out, fun b hb => (HUU.out b hb).1⟩
      have hxx : Hid (SpIn ok W4 ⟨at_, del, A1, c1, ins⟩) := Lib.hid (HL4.out.mono fun b _ hb => HM.out.top b (by have : w.heap.size < w2.heap.size := ix; omega))
      have hnX : Hid (¬ (w.heap.size = g ∨ (Value.slice dA D.length dC).ownBlock = some w.heap.size)) := Lib.hid (by
        rintro (e | e)
        · have := HM.out.lt HM.out.Kg; omega
        · have := HM.out.lt (HM.out.dK _ e).1; omega)
      rw [← hW4]
      clear hW4 hC4 hF4 y0 y1 y2 yf HL1 HU HG3 hg2 ix
      refine late_start [8, 9, 14, 15] [10, 16, 17, 21, 25, 28] (fun _ w' => (fun w' => blk w' g = coC (.pointer (some ⟨T.g, 0, none⟩)) c.s.cur c.s.ms (.string (tx c.last)) rv (.bool c.dirty) uv (.pointer (some ⟨gs, 0, none⟩)) hv (.slice dA D.length dC) ∧ w'.cell? ⟨g, 34, none⟩ = some (.slice dA D.length dC) ∧ w'.cell? ⟨w.heap.size, 0, none⟩ = some (.int .i64 at_) ∧ w'.cell? ⟨w.heap.size, 1, none⟩ = some (.int .i64 del) ∧ w'.cell? ⟨w.heap.size, 2, none⟩ = some (.slice A1 ins.length c1)) w') 29 rfl (by kernel_rfl) (fun _ _ => ⟨hb4, p34, z0, z1, z2⟩) ?_
      refine late_take 0 ?_ (fun _ => True) rfl (by kernel_rfl) (by kernel_rfl) (by kernel_rfl) (by kernel_rfl) (fun _ _ _ h => h) (fun _ _ => trivial) (by rfl) ?_ ?_
      rotate_left
      · (intro w9 hS9; go_simp; try with_reducible rfl)
      try simp only [Act.put, List.setIfInBounds_toArray, List.set_cons_zero, List.set_cons_succ]
      refine late_take 1 ?_ (fun _ => True) rfl (by kernel_rfl) (by kernel_rfl) (by kernel_rfl) (by kernel_rfl) (fun _ _ _ h => h) (fun _ _ => trivial) (by rfl) ?_ ?_
      rotate_left
      · (intro w9 hS9; go_simp; try with_reducible rfl)
      try simp only [Act.put, List.setIfInBounds_toArray, List.set_cons_zero, List.set_cons_succ]
      refine late_take 2 ?_ (fun _ => True) rfl (by kernel_rfl) (by kernel_rfl) (by kernel_rfl) (by kernel_rfl) (fun _ _ _ h => h) (fun _ _ => trivial) (by rfl) ?_ ?_
      rotate_left
      · (intro w9 hS9; go_simp; try with_reducible rfl)
      try simp only [Act.put, List.setIfInBounds_toArray, List.set_cons_zero, List.set_cons_succ]
      refine late_take 3 ?_ (fun _ => True) rfl (by kernel_rfl) (by kernel_rfl) (by kernel_rfl) (by kernel_rfl) (fun _ _ _ h => h) (fun _ _ => trivial) (by rfl) ?_ ?_
      rotate_left
      · (intro w9 hS9; go_simp; try with_reducible rfl)
      try simp only [Act.put, List.setIfInBounds_toArray, List.set_cons_zero, List.set_cons_succ]
      refine late_take 4 ?_ (fun _ => True) rfl (by kernel_rfl) (by kernel_rfl) (by kernel_rfl) (by kernel_rfl) (fun _ _ _ h => h) (fun _ _ => trivial) (by rfl) ?_ ?_
      rotate_left
      · (intro w9 hS9; go_simp; try with_reducible rfl)
      try simp only [Act.put, List.setIfInBounds_toArray, List.set_cons_zero, List.set_cons_succ]
      refine late_take 5 ?_ (fun _ => True) rfl (by kernel_rfl) (by kernel_rfl) (by kernel_rfl) (by kernel_rfl) (fun _ _ _ h => h) (fun _ _ => trivial) (by rfl) ?_ ?_
      rotate_left
      · (intro w9 hS9; go_simp; try with_reducible rfl)
      try simp only [Act.put, List.setIfInBounds_toArray, List.set_cons_zero, List.set_cons_succ]
      refine late_take 6 ?_ (fun _ => True) rfl (by kernel_rfl) (by kernel_rfl) (by kernel_rfl) (by kernel_rfl) (fun _ _ _ h => h) (fun _ _ => trivial) (by rfl) ?_ ?_
      rotate_left
      · (intro w9 hS9; go_simp; try with_reducible rfl)
      try simp only [Act.put, List.setIfInBounds_toArray, List.set_cons_zero, List.set_cons_succ]
      refine late_take 7 ?_ (fun _ => True) rfl (by kernel_rfl) (by kernel_rfl) (by kernel_rfl) (by kernel_rfl) (fun _ _ _ h => h) (fun _ _ => trivial) (by rfl) ?_ ?_
      rotate_left
      · (intro w9 hS9; go_simp; try with_reducible rfl)
      try simp only [Act.put, List.setIfInBounds_toArray, List.set_cons_zero, List.set_cons_succ]
      refine late_take 8 ?_ (fun w' => blk w' g = coC (.pointer (some ⟨T.g, 0, none⟩)) c.s.cur c.s.ms (.string (tx c.last)) rv (.bool c.dirty) uv (.pointer (some ⟨gs, 0, none⟩)) hv (.slice dA D.length dC) ∧ w'.cell? ⟨g, 34, none⟩ = some (.slice dA D.length dC) ∧ w'.cell? ⟨w.heap.size, 0, none⟩ = some (.int .i64 at_) ∧ w'.cell? ⟨w.heap.size, 1, none⟩ = some (.int .i64 del) ∧ w'.cell? ⟨w.heap.size, 2, none⟩ = some (.slice A1 ins.length c1)) rfl (by kernel_rfl) (by kernel_rfl) (by kernel_rfl) (by kernel_rfl) (fun _ _ _ h => h) (fun w9 h9 => h9 (by decide)) (by rfl) ?_ ?_
      rotate_left
      · (intro w9 hS9; obtain ⟨n0, n1, n2, n3, n4⟩ := hS9; go_simp; try with_reducible rfl)
      try simp only [Act.put, List.setIfInBounds_toArray, List.set_cons_zero, List.set_cons_succ]
      refine late_take 9 ?_ (fun w' => blk w' g = coC (.pointer (some ⟨T.g, 0, none⟩)) c.s.cur c.s.ms (.string (tx c.last)) rv (.bool c.dirty) uv (.pointer (some ⟨gs, 0, none⟩)) hv (.slice dA D.length dC) ∧ w'.cell? ⟨g, 34, none⟩ = some (.slice dA D.length dC) ∧ w'.cell? ⟨w.heap.size, 0, none⟩ = some (.int .i64 at_) ∧ w'.cell? ⟨w.heap.size, 1, none⟩ = some (.int .i64 del) ∧ w'.cell? ⟨w.heap.size, 2, none⟩ = some (.slice A1 ins.length c1)) rfl (by kernel_rfl) (by kernel_rfl) (by kernel_rfl) (by kernel_rfl) (fun _ _ _ h => h) (fun w9 h9 => h9 (by decide)) (by rfl) ?_ ?_
      rotate_left
      · (intro w9 hS9; obtain ⟨n0, n1, n2, n3, n4⟩ := hS9; go_simp; try with_reducible rfl)
      try simp only [Act.put, List.setIfInBounds_toArray, List.set_cons_zero, List.set_cons_succ]
      refine late_take 11 ?_ (fun _ => True) rfl (by kernel_rfl) (by kernel_rfl) (by kernel_rfl) (by kernel_rfl) (fun _ _ _ h => h) (fun _ _ => trivial) (by rfl) ?_ ?_
      rotate_left
      · (intro w9 hS9; go_simp; try with_reducible rfl)
      try simp only [Act.put, List.setIfInBounds_toArray, List.set_cons_zero, List.set_cons_succ]
      refine late_take 12 ?_ (fun _ => True) rfl (by kernel_rfl) (by kernel_rfl) (by kernel_rfl) (by kernel_rfl) (fun _ _ _ h => h) (fun _ _ => trivial) (by rfl) ?_ ?_
      rotate_left
      · (intro w9 hS9; go_simp; try with_reducible rfl)
      try simp only [Act.put, List.setIfInBounds_toArray, List.set_cons_zero, List.set_cons_succ]
      refine late_take 13 ?_ (fun _ => True) rfl (by kernel_rfl) (by kernel_rfl) (by kernel_rfl) (by kernel_rfl) (fun _ _ _ h => h) (fun _ _ => trivial) (by rfl) ?_ ?_
      rotate_left
      · (intro w9 hS9; go_simp; try with_reducible rfl)
      try simp only [Act.put, List.setIfInBounds_toArray, List.set_cons_zero, List.set_cons_succ]
      refine late_take 14 ?_ (fun w' => blk w' g = coC (.pointer (some ⟨T.g, 0, none⟩)) c.s.cur c.s.ms (.string (tx c.last)) rv (.bool c.dirty) uv (.pointer (some ⟨gs, 0, none⟩)) hv (.slice dA D.length dC) ∧ w'.cell? ⟨g, 34, none⟩ = some (.slice dA D.length dC) ∧ w'.cell? ⟨w.heap.size, 0, none⟩ = some (.int .i64 at_) ∧ w'.cell? ⟨w.heap.size, 1, none⟩ = some (.int .i64 del) ∧ w'.cell? ⟨w.heap.size, 2, none⟩ = some (.slice A1 ins.length c1)) rfl (by kernel_rfl) (by kernel_rfl) (by kernel_rfl) (by kernel_rfl) (fun _ _ _ h => h) (fun w9 h9 => h9 (by decide)) (by rfl) ?_ ?_
      rotate_left
      · (intro w9 hS9; obtain ⟨n0, n1, n2, n3, n4⟩ := hS9; go_simp; try with_reducible rfl)
      try simp only [Act.put, List.setIfInBounds_toArray, List.set_cons_zero, List.set_cons_succ]
      refine late_take 15 ?_ (fun w' => blk w' g = coC (.pointer (some ⟨T.g, 0, none⟩)) c.s.cur c.s.ms (.string (tx c.last)) rv (.bool c.dirty) uv (.pointer (some ⟨gs, 0, none⟩)) hv (.slice dA D.length dC) ∧ w'.cell? ⟨g, 34, none⟩ = some (.slice dA D.length dC) ∧ w'.cell? ⟨w.heap.size, 0, none⟩ = some (.int .i64 at_) ∧ w'.cell? ⟨w.heap.size, 1, none⟩ = some (.int .i64 del) ∧ w'.cell? ⟨w.heap.size, 2, none⟩ = some (.slice A1 ins.length c1)) rfl (by kernel_rfl) (by kernel_rfl) (by kernel_rfl) (by kernel_rfl) (fun _ _ _ h => h) (fun w9 h9 => h9 (by decide)) (by rfl) ?_ ?_
      rotate_left
      · (intro w9 hS9; obtain ⟨n0, n1, n2, n3, n4⟩ := hS9; go_simp; try with_reducible rfl)
      try simp only [Act.put, List.setIfInBounds_toArray, List.set_cons_zero, List.set_cons_succ]
      refine late_all (rs := [10, 16]) (by kernel_rfl) (by simp) ?_
      intro j9 hj9
      simp only [List.mem_cons, List.not_mem_nil, or_false] at hj9
      rcases hj9 with rfl | rfl
      · refine wpOp_step rfl (fun K9 hK9 => ?_)
        have hK9 := Lib.hid hK9
        go_simp
        (with_reducible refine Calls.mono (markShift_any c.s.ms at_ del A1 ins.length c1 _ hm HM.out.good.s.ms HA.out HD.out (by omega)) ?_)
        rintro e w5 ⟨rfl, m5, rfl⟩
        dsimp only
        refine hK9.out _ _ ⟨fun _ _ _ => ⟨blk_grows hb4 (by simp [coC_size]) (by repeat' first | exact Grows.refl _ | refine Grows.more ?_ _ | refine Grows.alloc ?_ _ | refine Grows.drewN ?_ _ | refine Grows.drew ?_), cell_grows p34 (by repeat' first | exact Grows.refl _ | refine Grows.more ?_ _ | refine Grows.alloc ?_ _ | refine Grows.drewN ?_ _ | refine Grows.drew ?_), cell_grows z0 (by repeat' first | exact Grows.refl _ | refine Grows.more ?_ _ | refine Grows.alloc ?_ _ | refine Grows.drewN ?_ _ | refine Grows.drew ?_), cell_grows z1 (by repeat' first | exact Grows.refl _ | refine Grows.more ?_ _ | refine Grows.alloc ?_ _ | refine Grows.drewN ?_ _ | refine Grows.drew ?_), cell_grows z2 (by repeat' first | exact Grows.refl _ | refine Grows.more ?_ _ | refine Grows.alloc ?_ _ | refine Grows.drewN ?_ _ | refine Grows.drew ?_)⟩, ?_⟩
        clear hK9
        try simp only [Act.put, List.setIfInBounds_toArray, List.set_cons_zero, List.set_cons_succ]
        refine late_all (rs := [16]) (by kernel_rfl) (by simp) ?_
        intro j9 hj9
        obtain rfl : j9 = 16 := by simpa using hj9
        clear hj9
        refine wpOp_step rfl (fun K9 hK9 => ?_)
        have hK9 := Lib.hid hK9
        go_simp
        refine hK9.out _ _ ⟨fun _ _ _ => ⟨blk_grows hb4 (by simp [coC_size]) (by repeat' first | exact Grows.refl _ | refine Grows.more ?_ _ | refine Grows.alloc ?_ _ | refine Grows.drewN ?_ _ | refine Grows.drew ?_), cell_grows p34 (by repeat' first | exact Grows.refl _ | refine Grows.more ?_ _ | refine Grows.alloc ?_ _ | refine Grows.drewN ?_ _ | refine Grows.drew ?_), cell_grows z0 (by repeat' first | exact Grows.refl _ | refine Grows.more ?_ _ | refine Grows.alloc ?_ _ | refine Grows.drewN ?_ _ | refine Grows.drew ?_), cell_grows z1 (by repeat' first | exact Grows.refl _ | refine Grows.more ?_ _ | refine Grows.alloc ?_ _ | refine Grows.drewN ?_ _ | refine Grows.drew ?_), cell_grows z2 (by repeat' first | exact Grows.refl _ | refine Grows.more ?_ _ | refine Grows.alloc ?_ _ | refine Grows.drewN ?_ _ | refine Grows.drew ?_)⟩, ?_⟩
        clear hK9
        try simp only [Act.put, List.setIfInBounds_toArray, List.set_cons_zero, List.set_cons_succ]
        refine late_seq 12 17 rfl (by kernel_rfl) (by kernel_rfl) ?_
        simp only [List.drop_succ_cons, List.drop_zero]
        refine wpList_append3 (.tmp 54) (.tmp 56) 31 base 24 i0 (.agg #[.int .i64 0, .int .i64 0, .slice none 0 0]) dA dC D.length (D.flatMap Spx.cells) (W4.heap.size + m5.bs.size) (.int .i64 at_) (.int .i64 del) (.slice A1 ins.length c1) rfl rfl Try.underlying31 hi hz0 hz1 hz2 rfl rfl (own_growsK H4.out.did (by repeat' first | exact Grows.refl _ | refine Grows.more ?_ _ | refine Grows.alloc ?_ _ | refine Grows.drewN ?_ _ | refine Grows.drew ?_)) rfl (by simp [go_sem]) (by simp [go_sem]) (by simp [go_sem]) ⟨rfl, rfl, rfl⟩ hDn (by have := hbs.out; simp; omega) ?_
        intro g5 cap5 w6 hown6 hgr6 hlie6
        have hlie6 := Lib.hid (hlie6.imp id (fun e => (by simp at e; omega : W4.heap.size ≤ g5)))
        have hx6 := (Chg.of_grows (by repeat' first | exact Grows.refl _ | refine Grows.more ?_ _ | refine Grows.alloc ?_ _ | refine Grows.drewN ?_ _ | refine Grows.drew ?_ : Grows W4 _)).trans hgr6
        have HX6 := Lib.hid hx6
        have HO6 := Lib.hid hown6
        obtain ⟨t0, tf, tb, t34, tg, tE⟩ := nine (ua := .pointer (some ⟨U.g, 0, none⟩)) (ms' := shiftV c.s.ms at_ del ins.length) H4.out.cells hm (by simp [hm]) hx6 hdg.out
        have TE := Lib.hid tE
        clear hown6 hgr6 hx6 tE
        go_wp2_with fail
        obtain ⟨W7, hW7⟩ : ∃ W, W = (setBlk (w6.setCell ⟨g, 0, none⟩ (.pointer (some ⟨U.g, 0, none⟩))) g (coC (.pointer (some ⟨U.g, 0, none⟩)) c.s.cur (shiftV c.s.ms at_ del ins.length) (.string (tx c.last)) rv (.bool c.dirty) uv (.pointer (some ⟨gs, 0, none⟩)) hv (.slice dA D.length dC))).setCell ⟨g, 34, none⟩ (.slice (some ⟨g5, 0, none⟩) (D.length + 1) cap5) := ⟨_, rfl⟩
        have hb7 := TE.out (.slice (some ⟨g5, 0, none⟩) (D.length + 1) cap5)
        rw [← hW7] at hb7
        have hc67 : Chg (fun b => b = g) w6 W7 := by rw [hW7]; exact ((chg_one (K := fun b => b = g) rfl).trans (chg_setBlk rfl)).trans (chg_one rfl)
        have hC7 := Lib.hid ((HX6.out.mono fun b _ e => (.inr e : b = g ∨ (Value.slice dA D.length dC).ownBlock = some b)).trans (hc67.mono fun b _ e => .inl e))
        have hne5 : ¬ g5 = g := by rcases hlie6.out with h1 | h1; exact (H4.out.dK g5 h1).2.1; have := H4.out.lt H4.out.Kg; omega
        have hO7 : Hid (W7.ownsRow base 24 3 (.slice (some ⟨g5, 0, none⟩) (D.length + 1) cap5) (D.length + 1) (D.flatMap Spx.cells ++ Spx.cells ⟨at_, del, A1, c1, ins⟩)) := Lib.hid (own_chg5 HO6.out hc67 hne5)
        have hnx := hnX.out
        have x0 := (hC7.out.cell (a := ⟨w.heap.size, 0, none⟩) ix4 hnx).trans z0
        have x1 := (hC7.out.cell (a := ⟨w.heap.size, 1, none⟩) ix4 hnx).trans z1
        have x2 := (hC7.out.cell (a := ⟨w.heap.size, 2, none⟩) ix4 hnx).trans z2
        have ix7 : InHeap w.heap.size W7 := Nat.lt_of_lt_of_le ix4 hC7.out.size
        obtain ⟨r0, r1, -⟩ := co_cells hb7 hsl
        have rf := co_free hb7 1
        have ig7 := co_in hb7
        have HB7 := Lib.hid hb7
        have HU7 : Hid (U.ok W7) := Lib.hid (HU4.out.same fun b hb => hC7.out.block b (HU4.out.lt b hb) (fun e => by rcases e with rfl | e; exact HM.out.dis _ HM.out.Kg (HUU.out _ hb).1; exact HM.out.dis _ (H4.out.dK b e).1 (HUU.out b hb).1))
        rw [← hW7]
        clear hW7 hc67 hne5 hb7 TE t0 tf tb t34 tg hnx z0 z1 z2 HX6 HO6 hb4 p0 p1 p34 ff4 ix4 ig4
        cases hlv : (lineV c.s.cur at_ del ins.length).2 with
        | true =>
          have hlv := Lib.hid hlv
          go_region_held3 (fun w' => w'.cell? ⟨g, 1, none⟩ = some (.int .i64 c.s.cur) ∧ w'.cell? ⟨w.heap.size, 0, none⟩ = some (.int .i64 at_) ∧ w'.cell? ⟨w.heap.size, 1, none⟩ = some (.int .i64 del) ∧ w'.cell? ⟨w.heap.size, 2, none⟩ = some (.slice A1 ins.length c1))
            (first | (simp [go_sem, ig7, ix7, r1, x0, x1, x2]; done))
            (first | (go_at_call 45; (refine Calls.mono (markLine_any c.s.cur at_ del A1 ins.length c1 _ HM.out.good.s.cur HA.out HD.out (by omega)) ?_); rw [hlv.out]; rintro e w8 ⟨rfl, m8, rfl⟩))
          go_wp2_with fail
          go_ret
          refine ⟨by rw [hV.out]; rfl, ?_⟩
          have hGd := hGd.out
          rw [hV.out] at hGd ⊢
          exact splice_fin (x := ⟨at_, del, A1, c1, ins⟩) HM.out H4.out HF4.out hlU.out hxx.out hC7.out hO7.out hlie6.out HB7.out (show _ = if (lineV c.s.cur at_ del ins.length).2 = true then (lineV c.s.cur at_ del ins.length).1 else min (at_ + 1) L'.length from by rw [if_pos hlv.out]) hGd (by repeat' first | exact Grows.refl _ | refine Grows.more ?_ _ | refine Grows.alloc ?_ _ | refine Grows.drewN ?_ _ | refine Grows.drew ?_)
        | false =>
          have hlv := Lib.hid hlv
          go_region_held3 (fun w' => w'.cell? ⟨g, 1, none⟩ = some (.int .i64 c.s.cur) ∧ w'.cell? ⟨w.heap.size, 0, none⟩ = some (.int .i64 at_) ∧ w'.cell? ⟨w.heap.size, 1, none⟩ = some (.int .i64 del) ∧ w'.cell? ⟨w.heap.size, 2, none⟩ = some (.slice A1 ins.length c1))
            (first | (simp [go_sem, ig7, ix7, r1, x0, x1, x2]; done))
            (first | (go_at_call 45; (refine Calls.mono (markLine_any c.s.cur at_ del A1 ins.length c1 _ HM.out.good.s.cur HA.out HD.out (by omega)) ?_); rw [hlv.out]; rintro e w8 ⟨rfl, m8, rfl⟩))
          have a0 : 0 ≤ at_ := HB.out.1
          have a1 : at_ ≤ 1000000 := by have := HB.out.2; omega
          have aw : IntKind.i64.wrap (at_ + 1) = at_ + 1 := IntWalk.i64_in _ (by omega)
          have hmn := Lib.hid (min_int (at_ + 1) (U.L.length : Int))
          go_wp2_with fail
          go_region_held3 (fun w' => w'.cell? ⟨g, 0, none⟩ = some (.pointer (some ⟨U.g, 0, none⟩)) ∧ w'.cell? ⟨w.heap.size, 0, none⟩ = some (.int .i64 at_))
            (first | (simp [go_sem, ig7, ix7, r0, x0]; done))
            (first | (go_at_call 14; (refine Calls.mono (coN g U _ (cell_grows r0 ?_) (HU7.out.grows ?_)) ?_); (repeat' first | exact Grows.refl _ | refine Grows.more ?_ _ | refine Grows.alloc ?_ _ | refine Grows.drew ?_); rintro e w9 ⟨rfl, hw9⟩; have hw9 := hw9.symm; subst hw9))
          go_wp2_with fail
          go_ret
          refine ⟨by rw [hV.out]; rfl, ?_⟩
          have hGd := hGd.out
          rw [hV.out] at hGd ⊢
          exact splice_fin (x := ⟨at_, del, A1, c1, ins⟩) HM.out H4.out HF4.out hlU.out hxx.out hC7.out hO7.out hlie6.out HB7.out (show _ = if (lineV c.s.cur at_ del ins.length).2 = true then (lineV c.s.cur at_ del ins.length).1 else min (at_ + 1) L'.length from by rw [if_neg (by rw [hlv.out]; decide)]) hGd (by repeat' first | exact Grows.refl _ | refine Grows.more ?_ _ | refine Grows.alloc ?_ _ | refine Grows.drewN ?_ _ | refine Grows.drew ?_)
      · refine wpOp_step rfl (fun K9 hK9 => ?_)
        have hK9 := Lib.hid hK9
        go_simp
        refine hK9.out _ _ ⟨fun _ _ _ => ⟨blk_grows hb4 (by simp [coC_size]) (by repeat' first | exact Grows.refl _ | refine Grows.more ?_ _ | refine Grows.alloc ?_ _ | refine Grows.drewN ?_ _ | refine Grows.drew ?_), cell_grows p34 (by repeat' first | exact Grows.refl _ | refine Grows.more ?_ _ | refine Grows.alloc ?_ _ | refine Grows.drewN ?_ _ | refine Grows.drew ?_), cell_grows z0 (by repeat' first | exact Grows.refl _ | refine Grows.more ?_ _ | refine Grows.alloc ?_ _ | refine Grows.drewN ?_ _ | refine Grows.drew ?_), cell_grows z1 (by repeat' first | exact Grows.refl _ | refine Grows.more ?_ _ | refine Grows.alloc ?_ _ | refine Grows.drewN ?_ _ | refine Grows.drew ?_), cell_grows z2 (by repeat' first | exact Grows.refl _ | refine Grows.more ?_ _ | refine Grows.alloc ?_ _ | refine Grows.drewN ?_ _ | refine Grows.drew ?_)⟩, ?_⟩
        clear hK9
        try simp only [Act.put, List.setIfInBounds_toArray, List.set_cons_zero, List.set_cons_succ]
        refine late_all (rs := [10]) (by kernel_rfl) (by simp) ?_
        intro j9 hj9
        obtain rfl : j9 = 10 := by simpa using hj9
        clear hj9
        refine wpOp_step rfl (fun K9 hK9 => ?_)
        have hK9 := Lib.hid hK9
        go_simp
        (with_reducible refine Calls.mono (markShift_any c.s.ms at_ del A1 ins.length c1 _ hm HM.out.good.s.ms HA.out HD.out (by omega)) ?_)
        rintro e w5 ⟨rfl, m5, rfl⟩
        dsimp only
        refine hK9.out _ _ ⟨fun _ _ _ => ⟨blk_grows hb4 (by simp [coC_size]) (by repeat' first | exact Grows.refl _ | refine Grows.more ?_ _ | refine Grows.alloc ?_ _ | refine Grows.drewN ?_ _ | refine Grows.drew ?_), cell_grows p34 (by repeat' first | exact Grows.refl _ | refine Grows.more ?_ _ | refine Grows.alloc ?_ _ | refine Grows.drewN ?_ _ | refine Grows.drew ?_), cell_grows z0 (by repeat' first | exact Grows.refl _ | refine Grows.more ?_ _ | refine Grows.alloc ?_ _ | refine Grows.drewN ?_ _ | refine Grows.drew ?_), cell_grows z1 (by repeat' first | exact Grows.refl _ | refine Grows.more ?_ _ | refine Grows.alloc ?_ _ | refine Grows.drewN ?_ _ | refine Grows.drew ?_), cell_grows z2 (by repeat' first | exact Grows.refl _ | refine Grows.more ?_ _ | refine Grows.alloc ?_ _ | refine Grows.drewN ?_ _ | refine Grows.drew ?_)⟩, ?_⟩
        clear hK9
        try simp only [Act.put, List.setIfInBounds_toArray, List.set_cons_zero, List.set_cons_succ]
        refine late_seq 12 17 rfl (by kernel_rfl) (by kernel_rfl) ?_
        simp only [List.drop_succ_cons, List.drop_zero]
        refine wpList_append3 (.tmp 54) (.tmp 56) 31 base 24 i0 (.agg #[.int .i64 0, .int .i64 0, .slice none 0 0]) dA dC D.length (D.flatMap Spx.cells) (W4.heap.size) (.int .i64 at_) (.int .i64 del) (.slice A1 ins.length c1) rfl rfl Try.underlying31 hi hz0 hz1 hz2 rfl rfl (own_growsK H4.out.did (by repeat' first | exact Grows.refl _ | refine Grows.more ?_ _ | refine Grows.alloc ?_ _ | refine Grows.drewN ?_ _ | refine Grows.drew ?_)) rfl (by simp [go_sem]) (by simp [go_sem]) (by simp [go_sem]) ⟨rfl, rfl, rfl⟩ hDn (by have := hbs.out; simp; omega) ?_
        intro g5 cap5 w6 hown6 hgr6 hlie6
        have hlie6 := Lib.hid (hlie6.imp id (fun e => (by simp at e; omega : W4.heap.size ≤ g5)))
        have hx6 := (Chg.of_grows (by repeat' first | exact Grows.refl _ | refine Grows.more ?_ _ | refine Grows.alloc ?_ _ | refine Grows.drewN ?_ _ | refine Grows.drew ?_ : Grows W4 _)).trans hgr6
        have HX6 := Lib.hid hx6
        have HO6 := Lib.hid hown6
        obtain ⟨t0, tf, tb, t34, tg, tE⟩ := nine (ua := .pointer (some ⟨U.g, 0, none⟩)) (ms' := shiftV c.s.ms at_ del ins.length) H4.out.cells hm (by simp [hm]) hx6 hdg.out
        have TE := Lib.hid tE
        clear hown6 hgr6 hx6 tE
        go_wp2_with fail
        obtain ⟨W7, hW7⟩ : ∃ W, W = (setBlk (w6.setCell ⟨g, 0, none⟩ (.pointer (some ⟨U.g, 0, none⟩))) g (coC (.pointer (some ⟨U.g, 0, none⟩)) c.s.cur (shiftV c.s.ms at_ del ins.length) (.string (tx c.last)) rv (.bool c.dirty) uv (.pointer (some ⟨gs, 0, none⟩)) hv (.slice dA D.length dC))).setCell ⟨g, 34, none⟩ (.slice (some ⟨g5, 0, none⟩) (D.length + 1) cap5) := ⟨_, rfl⟩
        have hb7 := TE.out (.slice (some ⟨g5, 0, none⟩) (D.length + 1) cap5)
        rw [← hW7] at hb7
        have hc67 : Chg (fun b => b = g) w6 W7 := by rw [hW7]; exact ((chg_one (K := fun b => b = g) rfl).trans (chg_setBlk rfl)).trans (chg_one rfl)
        have hC7 := Lib.hid ((HX6.out.mono fun b _ e => (.inr e : b = g ∨ (Value.slice dA D.length dC).ownBlock = some b)).trans (hc67.mono fun b _ e => .inl e))
        have hne5 : ¬ g5 = g := by rcases hlie6.out with h1 | h1; exact (H4.out.dK g5 h1).2.1; have := H4.out.lt H4.out.Kg; omega
        have hO7 : Hid (W7.ownsRow base 24 3 (.slice (some ⟨g5, 0, none⟩) (D.length + 1) cap5) (D.length + 1) (D.flatMap Spx.cells ++ Spx.cells ⟨at_, del, A1, c1, ins⟩)) := Lib.hid (own_chg5 HO6.out hc67 hne5)
        have hnx := hnX.out
        have x0 := (hC7.out.cell (a := ⟨w.heap.size, 0, none⟩) ix4 hnx).trans z0
        have x1 := (hC7.out.cell (a := ⟨w.heap.size, 1, none⟩) ix4 hnx).trans z1
        have x2 := (hC7.out.cell (a := ⟨w.heap.size, 2, none⟩) ix4 hnx).trans z2
        have ix7 : InHeap w.heap.size W7 := Nat.lt_of_lt_of_le ix4 hC7.out.size
        obtain ⟨r0, r1, -⟩ := co_cells hb7 hsl
        have rf := co_free hb7 1
        have ig7 := co_in hb7
        have HB7 := Lib.hid hb7
        have HU7 : Hid (U.ok W7) := Lib.hid (HU4.out.same fun b hb => hC7.out.block b (HU4.out.lt b hb) (fun e => by rcases e with rfl | e; exact HM.out.dis _ HM.out.Kg (HUU.out _ hb).1; exact HM.out.dis _ (H4.out.dK b e).1 (HUU.out b hb).1))
        rw [← hW7]
        clear hW7 hc67 hne5 hb7 TE t0 tf tb t34 tg hnx z0 z1 z2 HX6 HO6 hb4 p0 p1 p34 ff4 ix4 ig4
        cases hlv : (lineV c.s.cur at_ del ins.length).2 with
        | true =>
          have hlv := Lib.hid hlv
          go_region_held3 (fun w' => w'.cell? ⟨g, 1, none⟩ = some (.int .i64 c.s.cur) ∧ w'.cell? ⟨w.heap.size, 0, none⟩ = some (.int .i64 at_) ∧ w'.cell? ⟨w.heap.size, 1, none⟩ = some (.int .i64 del) ∧ w'.cell? ⟨w.heap.size, 2, none⟩ = some (.slice A1 ins.length c1))
            (first | (simp [go_sem, ig7, ix7, r1, x0, x1, x2]; done))
            (first | (go_at_call 45; (refine Calls.mono (markLine_any c.s.cur at_ del A1 ins.length c1 _ HM.out.good.s.cur HA.out HD.out (by omega)) ?_); rw [hlv.out]; rintro e w8 ⟨rfl, m8, rfl⟩))
          go_wp2_with fail
          go_ret
          refine ⟨by rw [hV.out]; rfl, ?_⟩
          have hGd := hGd.out
          rw [hV.out] at hGd ⊢
          exact splice_fin (x := ⟨at_, del, A1, c1, ins⟩) HM.out H4.out HF4.out hlU.out hxx.out hC7.out hO7.out hlie6.out HB7.out (show _ = if (lineV c.s.cur at_ del ins.length).2 = true then (lineV c.s.cur at_ del ins.length).1 else min (at_ + 1) L'.length from by rw [if_pos hlv.out]) hGd (by repeat' first | exact Grows.refl _ | refine Grows.more ?_ _ | refine Grows.alloc ?_ _ | refine Grows.drewN ?_ _ | refine Grows.drew ?_)
        | false =>
          have hlv := Lib.hid hlv
          go_region_held3 (fun w' => w'.cell? ⟨g, 1, none⟩ = some (.int .i64 c.s.cur) ∧ w'.cell? ⟨w.heap.size, 0, none⟩ = some (.int .i64 at_) ∧ w'.cell? ⟨w.heap.size, 1, none⟩ = some (.int .i64 del) ∧ w'.cell? ⟨w.heap.size, 2, none⟩ = some (.slice A1 ins.length c1))
            (first | (simp [go_sem, ig7, ix7, r1, x0, x1, x2]; done))
            (first | (go_at_call 45; (refine Calls.mono (markLine_any c.s.cur at_ del A1 ins.length c1 _ HM.out.good.s.cur HA.out HD.out (by omega)) ?_); rw [hlv.out]; rintro e w8 ⟨rfl, m8, rfl⟩))
          have a0 : 0 ≤ at_ := HB.out.1
          have a1 : at_ ≤ 1000000 := by have := HB.out.2; omega
          have aw : IntKind.i64.wrap (at_ + 1) = at_ + 1 := IntWalk.i64_in _ (by omega)
          have hmn := Lib.hid (min_int (at_ + 1) (U.L.length : Int))
          go_wp2_with fail
          go_region_held3 (fun w' => w'.cell? ⟨g, 0, none⟩ = some (.pointer (some ⟨U.g, 0, none⟩)) ∧ w'.cell? ⟨w.heap.size, 0, none⟩ = some (.int .i64 at_))
            (first | (simp [go_sem, ig7, ix7, r0, x0]; done))
            (first | (go_at_call 14; (refine Calls.mono (coN g U _ (cell_grows r0 ?_) (HU7.out.grows ?_)) ?_); (repeat' first | exact Grows.refl _ | refine Grows.more ?_ _ | refine Grows.alloc ?_ _ | refine Grows.drew ?_); rintro e w9 ⟨rfl, hw9⟩; have hw9 := hw9.symm; subst hw9))
          go_wp2_with fail
          go_ret
          refine ⟨by rw [hV.out]; rfl, ?_⟩
          have hGd := hGd.out
          rw [hV.out] at hGd ⊢
          exact splice_fin (x := ⟨at_, del, A1, c1, ins⟩) HM.out H4.out HF4.out hlU.out hxx.out hC7.out hO7.out hlie6.out HB7.out (show _ = if (lineV c.s.cur at_ del ins.length).2 = true then (lineV c.s.cur at_ del ins.length).1 else min (at_ + 1) L'.length from by rw [if_neg (by rw [hlv.out]; decide)]) hGd (by repeat' first | exact Grows.refl _ | refine Grows.more ?_ _ | refine Grows.alloc ?_ _ | refine Grows.drewN ?_ _ | refine Grows.drew ?_)
    · have hV : Hid (coSplice c ⟨at_, del, ins⟩ = (c, er)) := Lib.hid (by rw [hVs.out, if_pos h0])
      go_wp2_with fail
      go_ret
      exact ⟨by rw [hV.out]; rfl, by rw [hV.out]; exact HM.out.moved2' (by repeat' first | exact Grows.refl _ | refine Grows.more ?_ _ | refine Grows.alloc ?_ _ | refine Grows.drewN ?_ _ | refine Grows.drew ?_)⟩
end
end Go.Proofs.Ythanghgfakibnaa
