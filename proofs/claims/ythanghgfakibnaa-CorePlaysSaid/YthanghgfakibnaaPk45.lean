/-
  Chapter 19: the package's buffer and the document's, compared.
-/
import Derived.Test.YthanghgfakibnaaPk40
import Derived.Test.YthanghgfakibnaaPk43
import Derived.Test.YthanghgfakibnaaPk44
import Derived.Test.YthanghgfakibnaaPk36
import Derived.Test.YthanghgfakibnaaPk33
namespace Go.Proofs.Ythanghgfakibnaa
open Go.RowKit

set_option maxRecDepth 3000 in
theorem viC_tail (v : Value) (cur : Int) (ms : List Int) (last : Value) (h : ms.length = 26) : (viC v cur ms last)[28]? = some last := by
  rw [← Array.getElem?_toList, viC_list, show 28 = 26 + 1 + 1 by omega, List.getElem?_cons_succ, List.getElem?_cons_succ, List.getElem?_append_right (by simp; omega)]
  simp [h]
set_option maxRecDepth 3000 in
theorem viS_g0 (v : Value) (cur : Int) (ms : List Int) (last : Value) (h : 0 < (viC v cur ms last).size) : (viC v cur ms last)[0]'h = v := by
  have := viC_0 v cur ms last
  rw [Array.getElem?_eq_getElem h] at this
  exact Option.some.inj this
set_option maxRecDepth 3000 in
theorem viS_g1 (v : Value) (cur : Int) (ms : List Int) (last : Value) (h : 1 < (viC v cur ms last).size) : (viC v cur ms last)[1]'h = .int .i64 cur := by
  have := viC_1 v cur ms last
  rw [Array.getElem?_eq_getElem h] at this
  exact Option.some.inj this
set_option maxRecDepth 3000 in
theorem viS_g28 (v : Value) (cur : Int) (ms : List Int) (last : Value) (hm : ms.length = 26) (h : 28 < (viC v cur ms last).size) : (viC v cur ms last)[28]'h = last := by
  have := viC_tail v cur ms last hm
  rw [Array.getElem?_eq_getElem h] at this
  exact Option.some.inj this
attribute [local go_sem ↓] zeroView2 ldMarks_eq
attribute [local go_sem] zv_0 zv_1 zv_28 zv_size zv_one zv_g0 zv_g1 zv_g28 viC_size viC_one viC_marks viC_0 viC_1 viC_tail viS_g0 viS_g1 viS_g28 equal23 loadMarks loadMarks_if
/-- Lines in memory of nobody's. -/
def LnOf (K : Nat → Prop) (L : List (List UInt8)) : Spec := fun w v => ∃ A cap, v = .slice A L.length cap ∧ LRd (fun b => ¬ K b) w A cap L
set_option maxRecDepth 3000 in
theorem LnOf.stays (K : Nat → Prop) (L : List (List UInt8)) : Stays (LnOf K L) := fun _ _ _ hg ⟨A, cap, e, h⟩ => ⟨A, cap, e, h.grows hg⟩
set_option maxRecDepth 3000 in
set_option maxHeartbeats 16000000 in
theorem same19 {W w : World} {K K2 : Nat → Prop} {g g2 : Nat} {c : CoV} (h : Duo W K K2 g g2 c c w) : Calls Try.prog 35 #[.pointer (some ⟨g, 0, none⟩), .pointer (some ⟨g2, 0, none⟩)] w fun e w' => e = .returned (.bool true) ∧ Grows w w' := by
  obtain ⟨A, cap, p2, hS⟩ := h.b.see
  obtain ⟨p, hp⟩ := h.a.rat
  have ig := hS.inh
  obtain ⟨q0, q1, q28, q29, q30⟩ := hS.five
  have hms := hS.good.s.many
  have hn : c.s.L.length ≤ 1000000 := by have := hS.good.s.len; omega
  have Z := Lib.hid h
  have S := Lib.hid hS
  have P := Lib.hid hp
  clear h hS hp
  go_enter Try.func35, Try.ntmps35
  go_wp2_with fail
  (with_reducible refine (co_view Z.out.a).mono ?_)
  rintro e w1 ⟨A1, cap1, rfl, hl1, m1, rfl⟩
  have L1 := Lib.hid hl1
  clear hl1
  go_wp2_with fail
  obtain ⟨w2, hw2⟩ : ∃ z, z = (more w m1).alloc (Obj.cells (viC (Value.slice A1 c.s.L.length cap1) c.s.cur c.s.ms (Value.string (tx c.last))) 38) := ⟨_, rfl⟩
  obtain ⟨vb, hvb⟩ : ∃ z, z = w.heap.size + m1.bs.size := ⟨_, rfl⟩
  have hg2 : Grows w w2 := by rw [hw2]; exact ((Grows.refl _).more _).alloc _
  have VB : blk w2 vb = viC (Value.slice A1 c.s.L.length cap1) c.s.cur c.s.ms (Value.string (tx c.last)) := by rw [hw2]; exact blk_alloc_at _ _ _ _ (by rw [hvb]; simp)
  have hvz : 0 < (viC (Value.slice A1 c.s.L.length cap1) c.s.cur c.s.ms (Value.string (tx c.last))).size := by simp [viC_size]
  have V0 := (Blk.cell VB hvz 0).trans (viC_0 _ _ _ _)
  have V1 := (Blk.cell VB hvz 1).trans (viC_1 _ _ _ _)
  have V28 := (Blk.cell VB hvz 28).trans (viC_tail _ _ _ _ hms)
  have G2 := Lib.hid hg2
  have Z2 := Lib.hid (Z.out.grows hg2)
  have S2 := Lib.hid (S.out.grows hg2)
  have P2 := Lib.hid (P.out.grows hg2)
  have L2 : Hid (LRd (fun b => ¬ K b) w2 A1 cap1 c.s.L) := Lib.hid (L1.out.grows (by rw [hw2]; exact (Grows.refl _).alloc _))
  obtain ⟨ok, tv, uv, wv, hv, dv, r, r2, D, hM, hR, -, -⟩ := P2.out
  have HR := Lib.hid hR
  rw [← hw2, ← hvb]
  clear hw2 hvb hg2 hM hR q0 q1 q28 q29 q30 ig L1 hvz
  refine region_vals [(15, Ex (.pointer (some ⟨g, 0, none⟩))), (16, Ex (.int .i64 (c.s.L.length : Int))), (17, Ex (.int .i64 (c.s.L.length : Int))), (18, Ex (.bool true)), (19, Ex (.bool true)), (20, Ex (.pointer (some ⟨vb, 0, none⟩))), (21, Ex (.slice A1 c.s.L.length cap1)), (22, Ex (.pointer (some ⟨g2, 0, none⟩))), (23, Ex (.pointer (some ⟨g2, 0, none⟩))), (24, Ex (.pointer (some ⟨g2, 0, none⟩))), (25, Ex (.pointer (some ⟨g2, 0, none⟩))), (26, Ex (.slice A c.s.L.length cap)), (27, Ex (.bool true)), (28, Ex (.bool true)), (29, Ex (.bool true)), (30, Ex (.pointer (some ⟨g, 0, none⟩))), (31, Ex (.int .i64 (c.s.L.length : Int))), (32, LnOf K c.s.L), (33, Ex (.pointer (some ⟨g2, 0, none⟩))), (34, Ex (.pointer (some ⟨g2, 0, none⟩))), (35, Ex (.pointer (some ⟨g2, 0, none⟩))), (36, Ex (.pointer (some ⟨g2, 0, none⟩))), (37, Ex (.slice A c.s.L.length cap)), (38, Ex (.bool true)), (39, Ex (.bool true)), (40, Ex (.bool true)), (41, Ex (.pointer (some ⟨g, 0, none⟩))), (42, Ex (.int .i64 c.s.cur)), (43, Ex (.pointer (some ⟨g2, 0, none⟩))), (44, Ex (.pointer (some ⟨g2, 0, none⟩))), (45, Ex (.pointer (some ⟨g2, 0, none⟩))), (46, Ex (.pointer (some ⟨g2, 1, none⟩))), (47, Ex (.int .i64 c.s.cur)), (48, Ex (.bool true)), (49, Ex (.bool true)), (50, Ex (.bool true)), (51, Ex (.pointer (some ⟨vb, 1, none⟩))), (52, Ex (.int .i64 c.s.cur)), (53, Ex (.pointer (some ⟨g2, 0, none⟩))), (54, Ex (.pointer (some ⟨g2, 0, none⟩))), (55, Ex (.pointer (some ⟨g2, 0, none⟩))), (56, Ex (.pointer (some ⟨g2, 1, none⟩))), (57, Ex (.int .i64 c.s.cur)), (58, Ex (.bool true)), (59, Ex (.bool true)), (60, Ex (.bool true)), (61, Ex (.pointer (some ⟨vb, 2, none⟩))), (62, Ex (.agg (MA c.s.ms))), (63, Ex (.pointer (some ⟨g2, 0, none⟩))), (64, Ex (.pointer (some ⟨g2, 0, none⟩))), (65, Ex (.pointer (some ⟨g2, 0, none⟩))), (66, Ex (.pointer (some ⟨g2, 2, none⟩))), (67, Ex (.agg (MA c.s.ms))), (68, Ex (.bool true)), (69, Ex (.bool true)), (70, Ex (.bool true)), (71, Ex (.pointer (some ⟨vb, 28, none⟩))), (72, Ex (.string (tx c.last))), (73, Ex (.pointer (some ⟨g2, 0, none⟩))), (74, Ex (.pointer (some ⟨g2, 0, none⟩))), (75, Ex (.pointer (some ⟨g2, 28, none⟩))), (76, Ex (.string (tx c.last))), (77, Ex (.bool true)), (78, Ex (.bool true)), (79, Ex (.bool true)), (80, Ex (.pointer (some ⟨g, 0, none⟩))), (81, Ex (.bool c.dirty)), (82, Ex (.pointer (some ⟨g2, 0, none⟩))), (83, Ex (.pointer (some ⟨g2, 0, none⟩))), (84, Ex (.pointer (some ⟨g2, 30, none⟩))), (85, Ex (.bool c.dirty)), (86, Ex (.bool true)), (87, Ex (.bool true)), (88, Ex (.bool true)), (89, Ex (.pointer (some ⟨g, 0, none⟩))), (90, Ex (.pointer (some ⟨p, 0, none⟩))), (91, Ex (.pointer (some ⟨g2, 0, none⟩))), (92, Ex (.pointer (some ⟨g2, 0, none⟩))), (93, Ex (.pointer (some ⟨g2, 29, none⟩))), (94, Ex (.pointer (some ⟨p2, 0, none⟩))), (95, Ex (.bool true)), (96, Ex (.bool true)), (4, Ex (.bool true))] (by kernel_rfl) (by kernel_rfl) rfl ?tab ?step ?fin
  case tab => exact tab_of 97 [15, 16, 17, 18, 19, 20, 21, 22, 23, 24, 25, 26, 27, 28, 29, 30, 31, 32, 33, 34, 35, 36, 37, 38, 39, 40, 41, 42, 43, 44, 45, 46, 47, 48, 49, 50, 51, 52, 53, 54, 55, 56, 57, 58, 59, 60, 61, 62, 63, 64, 65, 66, 67, 68, 69, 70, 71, 72, 73, 74, 75, 76, 77, 78, 79, 80, 81, 82, 83, 84, 85, 86, 87, 88, 89, 90, 91, 92, 93, 94, 95, 96, 4] rfl rfl (by decide) (by decide) (stays_cons (Ex.stays _) <| stays_cons (Ex.stays _) <| stays_cons (Ex.stays _) <| stays_cons (Ex.stays _) <| stays_cons (Ex.stays _) <| stays_cons (Ex.stays _) <| stays_cons (Ex.stays _) <| stays_cons (Ex.stays _) <| stays_cons (Ex.stays _) <| stays_cons (Ex.stays _) <| stays_cons (Ex.stays _) <| stays_cons (Ex.stays _) <| stays_cons (Ex.stays _) <| stays_cons (Ex.stays _) <| stays_cons (Ex.stays _) <| stays_cons (Ex.stays _) <| stays_cons (Ex.stays _) <| stays_cons (LnOf.stays _ _) <| stays_cons (Ex.stays _) <| stays_cons (Ex.stays _) <| stays_cons (Ex.stays _) <| stays_cons (Ex.stays _) <| stays_cons (Ex.stays _) <| stays_cons (Ex.stays _) <| stays_cons (Ex.stays _) <| stays_cons (Ex.stays _) <| stays_cons (Ex.stays _) <| stays_cons (Ex.stays _) <| stays_cons (Ex.stays _) <| stays_cons (Ex.stays _) <| stays_cons (Ex.stays _) <| stays_cons (Ex.stays _) <| stays_cons (Ex.stays _) <| stays_cons (Ex.stays _) <| stays_cons (Ex.stays _) <| stays_cons (Ex.stays _) <| stays_cons (Ex.stays _) <| stays_cons (Ex.stays _) <| stays_cons (Ex.stays _) <| stays_cons (Ex.stays _) <| stays_cons (Ex.stays _) <| stays_cons (Ex.stays _) <| stays_cons (Ex.stays _) <| stays_cons (Ex.stays _) <| stays_cons (Ex.stays _) <| stays_cons (Ex.stays _) <| stays_cons (Ex.stays _) <| stays_cons (Ex.stays _) <| stays_cons (Ex.stays _) <| stays_cons (Ex.stays _) <| stays_cons (Ex.stays _) <| stays_cons (Ex.stays _) <| stays_cons (Ex.stays _) <| stays_cons (Ex.stays _) <| stays_cons (Ex.stays _) <| stays_cons (Ex.stays _) <| stays_cons (Ex.stays _) <| stays_cons (Ex.stays _) <| stays_cons (Ex.stays _) <| stays_cons (Ex.stays _) <| stays_cons (Ex.stays _) <| stays_cons (Ex.stays _) <| stays_cons (Ex.stays _) <| stays_cons (Ex.stays _) <| stays_cons (Ex.stays _) <| stays_cons (Ex.stays _) <| stays_cons (Ex.stays _) <| stays_cons (Ex.stays _) <| stays_cons (Ex.stays _) <| stays_cons (Ex.stays _) <| stays_cons (Ex.stays _) <| stays_cons (Ex.stays _) <| stays_cons (Ex.stays _) <| stays_cons (Ex.stays _) <| stays_cons (Ex.stays _) <| stays_cons (Ex.stays _) <| stays_cons (Ex.stays _) <| stays_cons (Ex.stays _) <| stays_cons (Ex.stays _) <| stays_cons (Ex.stays _) <| stays_cons (Ex.stays _) <| stays_cons (Ex.stays _) <| stays_cons (Ex.stays _) <| stays_nil)
  case step =>
    intro hT i done a' w' hi hJ hr
    have gj := hJ.grows
    have v0 := cell_grows V0 gj
    have v1 := cell_grows V1 gj
    have v28 := cell_grows V28 gj
    have vs : span (blk w' vb) 2 26 = MA c.s.ms := by rw [blk_grows VB (by simp [viC_size]) gj]; exact viC_marks _ _ _ _ hms
    have vz : 28 ≤ (blk w' vb).size := by rw [blk_grows VB (by simp [viC_size]) gj]; simp [viC_size, hms]
    have SJ := S2.out.grows gj
    obtain ⟨u0, u1, u28, u29, u30⟩ := SJ.five
    obtain ⟨us, uz⟩ := SJ.marks
    clear SJ
    have hi : i < 83 := hi
    match i, hi, hr with
    | 0, _, hr =>
      have e0 : a'.eval (.tmp 0) = (.pointer (some ⟨g, 0, none⟩)) := hJ.old 0 rfl (by simp)
      refine hJ.pure_ hT rfl rfl rfl rfl (.pointer (some ⟨g, 0, none⟩)) ?_ rfl
      have ek : ∀ v, a'.eval (.const v) = v := fun _ => rfl
      generalize a'.eval = ev at e0 ek ⊢
      simp [execOp, go_sem, e0] <;> first | omega | (intro hx9; exact absurd hx9 (by omega))
    | 1, _, hr =>
      have e15 : a'.eval (.tmp 15) = (.pointer (some ⟨g, 0, none⟩)) := hJ.ex (j := 0) rfl hr (by kernel_rfl)
      refine hJ.call_ hT rfl rfl rfl rfl 14 #[.pointer (some ⟨g, 0, none⟩)] ?_ ?_
      · have hent := enters_of Try.func14 (by kernel_rfl) rfl #[.pointer (some ⟨g, 0, none⟩)] w'
        have ek : ∀ v, a'.eval (.const v) = v := fun _ => rfl
        have ef : ∀ f, a'.eval (.func f) = .func (.func f) #[] #[] := fun _ => rfl
        clear hJ hr hT
        generalize a'.eval = ev at *
        simp [execOp, resolve, invoke, Deferred.ofValue, go_sem, hent, ef, e15]
      · refine (co_n (c := c) (Z2.out.a.grows hJ.grows) c.s.L.length rfl).mono ?_
        rintro e w5 ⟨rfl, hw⟩
        exact ⟨_, rfl, hw ▸ Grows.refl _, rfl⟩
    | 2, _, hr =>
      have e6 : a'.eval (.tmp 6) = (.int .i64 (c.s.L.length : Int)) := hJ.old 6 rfl (by simp)
      refine hJ.pure_ hT rfl rfl rfl rfl (.int .i64 (c.s.L.length : Int)) ?_ rfl
      have ek : ∀ v, a'.eval (.const v) = v := fun _ => rfl
      generalize a'.eval = ev at e6 ek ⊢
      simp [execOp, go_sem, e6] <;> first | omega | (intro hx9; exact absurd hx9 (by omega))
    | 3, _, hr =>
      have e16 : a'.eval (.tmp 16) = (.int .i64 (c.s.L.length : Int)) := hJ.ex (j := 1) rfl hr (by kernel_rfl)
      have e17 : a'.eval (.tmp 17) = (.int .i64 (c.s.L.length : Int)) := hJ.ex (j := 2) rfl hr (by kernel_rfl)
      refine hJ.pure_ hT rfl rfl rfl rfl (.bool true) ?_ rfl
      have ek : ∀ v, a'.eval (.const v) = v := fun _ => rfl
      generalize a'.eval = ev at e16 e17 ek ⊢
      simp [execOp, go_sem, e16, e17] <;> first | omega | (intro hx9; exact absurd hx9 (by omega))
    | 4, _, hr =>
      have e18 : a'.eval (.tmp 18) = (.bool true) := hJ.ex (j := 3) rfl hr (by kernel_rfl)
      refine hJ.pure_ hT rfl rfl rfl rfl (.bool true) ?_ rfl
      have ek : ∀ v, a'.eval (.const v) = v := fun _ => rfl
      generalize a'.eval = ev at e18 ek ⊢
      simp [execOp, go_sem, e18] <;> first | omega | (intro hx9; exact absurd hx9 (by omega))
    | 5, _, hr =>
      have e5 : a'.eval (.tmp 5) = (.pointer (some ⟨vb, 0, none⟩)) := hJ.old 5 rfl (by simp)
      have e19 : a'.eval (.tmp 19) = (.bool true) := hJ.ex (j := 4) rfl hr (by kernel_rfl)
      refine hJ.pure_ hT rfl rfl rfl ((wanted_of (k := 4) (b := true) rfl rfl rfl e19).trans (by decide)) (.pointer (some ⟨vb, 0, none⟩)) ?_ rfl
      have ek : ∀ v, a'.eval (.const v) = v := fun _ => rfl
      generalize a'.eval = ev at e5 e19 ek ⊢
      simp [execOp, go_sem, e5] <;> first | omega | (intro hx9; exact absurd hx9 (by omega))
    | 6, _, hr =>
      have e20 : a'.eval (.tmp 20) = (.pointer (some ⟨vb, 0, none⟩)) := hJ.ex (j := 5) rfl hr (by kernel_rfl)
      have e19 : a'.eval (.tmp 19) = (.bool true) := hJ.ex (j := 4) rfl hr (by kernel_rfl)
      refine hJ.pure_ hT rfl rfl rfl ((wanted_of (k := 4) (b := true) rfl rfl rfl e19).trans (by decide)) (.slice A1 c.s.L.length cap1) ?_ rfl
      have ek : ∀ v, a'.eval (.const v) = v := fun _ => rfl
      generalize a'.eval = ev at e20 e19 ek ⊢
      simp [execOp, go_sem, e20, v0] <;> first | omega | (intro hx9; exact absurd hx9 (by omega))
    | 7, _, hr =>
      have e1 : a'.eval (.tmp 1) = (.pointer (some ⟨g2, 0, none⟩)) := hJ.old 1 rfl (by simp)
      have e19 : a'.eval (.tmp 19) = (.bool true) := hJ.ex (j := 4) rfl hr (by kernel_rfl)
      refine hJ.pure_ hT rfl rfl rfl ((wanted_of (k := 4) (b := true) rfl rfl rfl e19).trans (by decide)) (.pointer (some ⟨g2, 0, none⟩)) ?_ rfl
      have ek : ∀ v, a'.eval (.const v) = v := fun _ => rfl
      generalize a'.eval = ev at e1 e19 ek ⊢
      simp [execOp, go_sem, e1] <;> first | omega | (intro hx9; exact absurd hx9 (by omega))
    | 8, _, hr =>
      have e22 : a'.eval (.tmp 22) = (.pointer (some ⟨g2, 0, none⟩)) := hJ.ex (j := 7) rfl hr (by kernel_rfl)
      have e19 : a'.eval (.tmp 19) = (.bool true) := hJ.ex (j := 4) rfl hr (by kernel_rfl)
      refine hJ.pure_ hT rfl rfl rfl ((wanted_of (k := 4) (b := true) rfl rfl rfl e19).trans (by decide)) (.pointer (some ⟨g2, 0, none⟩)) ?_ rfl
      have ek : ∀ v, a'.eval (.const v) = v := fun _ => rfl
      generalize a'.eval = ev at e22 e19 ek ⊢
      simp [execOp, go_sem, e22] <;> first | omega | (intro hx9; exact absurd hx9 (by omega))
    | 9, _, hr =>
      have e23 : a'.eval (.tmp 23) = (.pointer (some ⟨g2, 0, none⟩)) := hJ.ex (j := 8) rfl hr (by kernel_rfl)
      have e19 : a'.eval (.tmp 19) = (.bool true) := hJ.ex (j := 4) rfl hr (by kernel_rfl)
      refine hJ.pure_ hT rfl rfl rfl ((wanted_of (k := 4) (b := true) rfl rfl rfl e19).trans (by decide)) (.pointer (some ⟨g2, 0, none⟩)) ?_ rfl
      have ek : ∀ v, a'.eval (.const v) = v := fun _ => rfl
      generalize a'.eval = ev at e23 e19 ek ⊢
      simp [execOp, go_sem, e23] <;> first | omega | (intro hx9; exact absurd hx9 (by omega))
    | 10, _, hr =>
      have e24 : a'.eval (.tmp 24) = (.pointer (some ⟨g2, 0, none⟩)) := hJ.ex (j := 9) rfl hr (by kernel_rfl)
      have e19 : a'.eval (.tmp 19) = (.bool true) := hJ.ex (j := 4) rfl hr (by kernel_rfl)
      refine hJ.pure_ hT rfl rfl rfl ((wanted_of (k := 4) (b := true) rfl rfl rfl e19).trans (by decide)) (.pointer (some ⟨g2, 0, none⟩)) ?_ rfl
      have ek : ∀ v, a'.eval (.const v) = v := fun _ => rfl
      generalize a'.eval = ev at e24 e19 ek ⊢
      simp [execOp, go_sem, e24] <;> first | omega | (intro hx9; exact absurd hx9 (by omega))
    | 11, _, hr =>
      have e25 : a'.eval (.tmp 25) = (.pointer (some ⟨g2, 0, none⟩)) := hJ.ex (j := 10) rfl hr (by kernel_rfl)
      have e19 : a'.eval (.tmp 19) = (.bool true) := hJ.ex (j := 4) rfl hr (by kernel_rfl)
      refine hJ.pure_ hT rfl rfl rfl ((wanted_of (k := 4) (b := true) rfl rfl rfl e19).trans (by decide)) (.slice A c.s.L.length cap) ?_ rfl
      have ek : ∀ v, a'.eval (.const v) = v := fun _ => rfl
      generalize a'.eval = ev at e25 e19 ek ⊢
      simp [execOp, go_sem, e25, u0] <;> first | omega | (intro hx9; exact absurd hx9 (by omega))
    | 12, _, hr =>
      have e21 : a'.eval (.tmp 21) = (.slice A1 c.s.L.length cap1) := hJ.ex (j := 6) rfl hr (by kernel_rfl)
      have e26 : a'.eval (.tmp 26) = (.slice A c.s.L.length cap) := hJ.ex (j := 11) rfl hr (by kernel_rfl)
      have e19 : a'.eval (.tmp 19) = (.bool true) := hJ.ex (j := 4) rfl hr (by kernel_rfl)
      refine hJ.call_ hT rfl rfl rfl ((wanted_of (k := 4) (b := true) rfl rfl rfl e19).trans (by decide)) 29 #[.slice A1 c.s.L.length cap1, .slice A c.s.L.length cap] ?_ ?_
      · have hent := enters_of Try.func29 (by kernel_rfl) rfl #[.slice A1 c.s.L.length cap1, .slice A c.s.L.length cap] w'
        have ek : ∀ v, a'.eval (.const v) = v := fun _ => rfl
        have ef : ∀ f, a'.eval (.func f) = .func (.func f) #[] #[] := fun _ => rfl
        clear hJ hr hT
        generalize a'.eval = ev at *
        simp [execOp, resolve, invoke, Deferred.ofValue, go_sem, hent, ef, e21, e26]
      · refine (same_eq A1 A cap1 cap c.s.L.length c.s.L.length c.s.L w' (L2.out.rd.grows hJ.grows) (S2.out.lines.rd.grows hJ.grows) hn rfl rfl).mono ?_
        rintro e w5 ⟨rfl, hg⟩
        exact ⟨_, rfl, hg, rfl⟩
    | 13, _, hr =>
      have e19 : a'.eval (.tmp 19) = (.bool true) := hJ.ex (j := 4) rfl hr (by kernel_rfl)
      have e27 : a'.eval (.tmp 27) = (.bool true) := hJ.ex (j := 12) rfl hr (by kernel_rfl)
      refine hJ.pure_ hT rfl rfl rfl rfl (.bool true) ?_ rfl
      have ek : ∀ v, a'.eval (.const v) = v := fun _ => rfl
      generalize a'.eval = ev at e19 e27 ek ⊢
      simp [execOp, go_sem, ek, e19, e27] <;> first | omega | (intro hx9; exact absurd hx9 (by omega))
    | 14, _, hr =>
      have e28 : a'.eval (.tmp 28) = (.bool true) := hJ.ex (j := 13) rfl hr (by kernel_rfl)
      refine hJ.pure_ hT rfl rfl rfl rfl (.bool true) ?_ rfl
      have ek : ∀ v, a'.eval (.const v) = v := fun _ => rfl
      generalize a'.eval = ev at e28 ek ⊢
      simp [execOp, go_sem, e28] <;> first | omega | (intro hx9; exact absurd hx9 (by omega))
    | 15, _, hr =>
      have e0 : a'.eval (.tmp 0) = (.pointer (some ⟨g, 0, none⟩)) := hJ.old 0 rfl (by simp)
      have e29 : a'.eval (.tmp 29) = (.bool true) := hJ.ex (j := 14) rfl hr (by kernel_rfl)
      refine hJ.pure_ hT rfl rfl rfl ((wanted_of (k := 14) (b := true) rfl rfl rfl e29).trans (by decide)) (.pointer (some ⟨g, 0, none⟩)) ?_ rfl
      have ek : ∀ v, a'.eval (.const v) = v := fun _ => rfl
      generalize a'.eval = ev at e0 e29 ek ⊢
      simp [execOp, go_sem, e0] <;> first | omega | (intro hx9; exact absurd hx9 (by omega))
    | 16, _, hr =>
      have e6 : a'.eval (.tmp 6) = (.int .i64 (c.s.L.length : Int)) := hJ.old 6 rfl (by simp)
      have e29 : a'.eval (.tmp 29) = (.bool true) := hJ.ex (j := 14) rfl hr (by kernel_rfl)
      refine hJ.pure_ hT rfl rfl rfl ((wanted_of (k := 14) (b := true) rfl rfl rfl e29).trans (by decide)) (.int .i64 (c.s.L.length : Int)) ?_ rfl
      have ek : ∀ v, a'.eval (.const v) = v := fun _ => rfl
      generalize a'.eval = ev at e6 e29 ek ⊢
      simp [execOp, go_sem, e6] <;> first | omega | (intro hx9; exact absurd hx9 (by omega))
    | 17, _, hr =>
      have e30 : a'.eval (.tmp 30) = (.pointer (some ⟨g, 0, none⟩)) := hJ.ex (j := 15) rfl hr (by kernel_rfl)
      have e31 : a'.eval (.tmp 31) = (.int .i64 (c.s.L.length : Int)) := hJ.ex (j := 16) rfl hr (by kernel_rfl)
      have e29 : a'.eval (.tmp 29) = (.bool true) := hJ.ex (j := 14) rfl hr (by kernel_rfl)
      refine hJ.call_ hT rfl rfl rfl ((wanted_of (k := 14) (b := true) rfl rfl rfl e29).trans (by decide)) 16 #[.pointer (some ⟨g, 0, none⟩), .int .i64 1, .int .i64 (c.s.L.length : Int)] ?_ ?_
      · have hent := enters_of Try.func16 (by kernel_rfl) rfl #[.pointer (some ⟨g, 0, none⟩), .int .i64 1, .int .i64 (c.s.L.length : Int)] w'
        have ek : ∀ v, a'.eval (.const v) = v := fun _ => rfl
        have ef : ∀ f, a'.eval (.func f) = .func (.func f) #[] #[] := fun _ => rfl
        clear hJ hr hT
        generalize a'.eval = ev at *
        simp [execOp, resolve, invoke, Deferred.ofValue, go_sem, hent, ek, ef, e30, e31]
      · refine (co_lines (Z2.out.a.grows hJ.grows) c.s.L rfl c.s.L.length rfl c.s.L.length rfl).mono ?_
        rintro e w5 ⟨A4, cap4, rfl, hl, hg⟩
        exact ⟨_, rfl, hg, A4, cap4, rfl, hl⟩
    | 18, _, hr =>
      have e1 : a'.eval (.tmp 1) = (.pointer (some ⟨g2, 0, none⟩)) := hJ.old 1 rfl (by simp)
      have e29 : a'.eval (.tmp 29) = (.bool true) := hJ.ex (j := 14) rfl hr (by kernel_rfl)
      refine hJ.pure_ hT rfl rfl rfl ((wanted_of (k := 14) (b := true) rfl rfl rfl e29).trans (by decide)) (.pointer (some ⟨g2, 0, none⟩)) ?_ rfl
      have ek : ∀ v, a'.eval (.const v) = v := fun _ => rfl
      generalize a'.eval = ev at e1 e29 ek ⊢
      simp [execOp, go_sem, e1] <;> first | omega | (intro hx9; exact absurd hx9 (by omega))
    | 19, _, hr =>
      have e33 : a'.eval (.tmp 33) = (.pointer (some ⟨g2, 0, none⟩)) := hJ.ex (j := 18) rfl hr (by kernel_rfl)
      have e29 : a'.eval (.tmp 29) = (.bool true) := hJ.ex (j := 14) rfl hr (by kernel_rfl)
      refine hJ.pure_ hT rfl rfl rfl ((wanted_of (k := 14) (b := true) rfl rfl rfl e29).trans (by decide)) (.pointer (some ⟨g2, 0, none⟩)) ?_ rfl
      have ek : ∀ v, a'.eval (.const v) = v := fun _ => rfl
      generalize a'.eval = ev at e33 e29 ek ⊢
      simp [execOp, go_sem, e33] <;> first | omega | (intro hx9; exact absurd hx9 (by omega))
    | 20, _, hr =>
      have e34 : a'.eval (.tmp 34) = (.pointer (some ⟨g2, 0, none⟩)) := hJ.ex (j := 19) rfl hr (by kernel_rfl)
      have e29 : a'.eval (.tmp 29) = (.bool true) := hJ.ex (j := 14) rfl hr (by kernel_rfl)
      refine hJ.pure_ hT rfl rfl rfl ((wanted_of (k := 14) (b := true) rfl rfl rfl e29).trans (by decide)) (.pointer (some ⟨g2, 0, none⟩)) ?_ rfl
      have ek : ∀ v, a'.eval (.const v) = v := fun _ => rfl
      generalize a'.eval = ev at e34 e29 ek ⊢
      simp [execOp, go_sem, e34] <;> first | omega | (intro hx9; exact absurd hx9 (by omega))
    | 21, _, hr =>
      have e35 : a'.eval (.tmp 35) = (.pointer (some ⟨g2, 0, none⟩)) := hJ.ex (j := 20) rfl hr (by kernel_rfl)
      have e29 : a'.eval (.tmp 29) = (.bool true) := hJ.ex (j := 14) rfl hr (by kernel_rfl)
      refine hJ.pure_ hT rfl rfl rfl ((wanted_of (k := 14) (b := true) rfl rfl rfl e29).trans (by decide)) (.pointer (some ⟨g2, 0, none⟩)) ?_ rfl
      have ek : ∀ v, a'.eval (.const v) = v := fun _ => rfl
      generalize a'.eval = ev at e35 e29 ek ⊢
      simp [execOp, go_sem, e35] <;> first | omega | (intro hx9; exact absurd hx9 (by omega))
    | 22, _, hr =>
      have e36 : a'.eval (.tmp 36) = (.pointer (some ⟨g2, 0, none⟩)) := hJ.ex (j := 21) rfl hr (by kernel_rfl)
      have e29 : a'.eval (.tmp 29) = (.bool true) := hJ.ex (j := 14) rfl hr (by kernel_rfl)
      refine hJ.pure_ hT rfl rfl rfl ((wanted_of (k := 14) (b := true) rfl rfl rfl e29).trans (by decide)) (.slice A c.s.L.length cap) ?_ rfl
      have ek : ∀ v, a'.eval (.const v) = v := fun _ => rfl
      generalize a'.eval = ev at e36 e29 ek ⊢
      simp [execOp, go_sem, e36, u0] <;> first | omega | (intro hx9; exact absurd hx9 (by omega))
    | 23, _, hr =>
      obtain ⟨A4, cap4, e32, hl4⟩ := hJ.has (j := 17) (R := LnOf K c.s.L) rfl hr (by kernel_rfl)
      have e37 : a'.eval (.tmp 37) = (.slice A c.s.L.length cap) := hJ.ex (j := 22) rfl hr (by kernel_rfl)
      have e29 : a'.eval (.tmp 29) = (.bool true) := hJ.ex (j := 14) rfl hr (by kernel_rfl)
      refine hJ.call_ hT rfl rfl rfl ((wanted_of (k := 14) (b := true) rfl rfl rfl e29).trans (by decide)) 29 #[.slice A4 c.s.L.length cap4, .slice A c.s.L.length cap] ?_ ?_
      · have hent := enters_of Try.func29 (by kernel_rfl) rfl #[.slice A4 c.s.L.length cap4, .slice A c.s.L.length cap] w'
        have ek : ∀ v, a'.eval (.const v) = v := fun _ => rfl
        have ef : ∀ f, a'.eval (.func f) = .func (.func f) #[] #[] := fun _ => rfl
        clear hJ hr hT
        generalize a'.eval = ev at *
        simp [e32, execOp, resolve, invoke, Deferred.ofValue, go_sem, hent, ef, e37]
      · refine (same_eq A4 A cap4 cap c.s.L.length c.s.L.length c.s.L w' hl4.rd (S2.out.lines.rd.grows hJ.grows) hn rfl rfl).mono ?_
        rintro e w5 ⟨rfl, hg⟩
        exact ⟨_, rfl, hg, rfl⟩
    | 24, _, hr =>
      have e29 : a'.eval (.tmp 29) = (.bool true) := hJ.ex (j := 14) rfl hr (by kernel_rfl)
      have e38 : a'.eval (.tmp 38) = (.bool true) := hJ.ex (j := 23) rfl hr (by kernel_rfl)
      refine hJ.pure_ hT rfl rfl rfl rfl (.bool true) ?_ rfl
      have ek : ∀ v, a'.eval (.const v) = v := fun _ => rfl
      generalize a'.eval = ev at e29 e38 ek ⊢
      simp [execOp, go_sem, ek, e29, e38] <;> first | omega | (intro hx9; exact absurd hx9 (by omega))
    | 25, _, hr =>
      have e39 : a'.eval (.tmp 39) = (.bool true) := hJ.ex (j := 24) rfl hr (by kernel_rfl)
      refine hJ.pure_ hT rfl rfl rfl rfl (.bool true) ?_ rfl
      have ek : ∀ v, a'.eval (.const v) = v := fun _ => rfl
      generalize a'.eval = ev at e39 ek ⊢
      simp [execOp, go_sem, e39] <;> first | omega | (intro hx9; exact absurd hx9 (by omega))
    | 26, _, hr =>
      have e0 : a'.eval (.tmp 0) = (.pointer (some ⟨g, 0, none⟩)) := hJ.old 0 rfl (by simp)
      have e40 : a'.eval (.tmp 40) = (.bool true) := hJ.ex (j := 25) rfl hr (by kernel_rfl)
      refine hJ.pure_ hT rfl rfl rfl ((wanted_of (k := 25) (b := true) rfl rfl rfl e40).trans (by decide)) (.pointer (some ⟨g, 0, none⟩)) ?_ rfl
      have ek : ∀ v, a'.eval (.const v) = v := fun _ => rfl
      generalize a'.eval = ev at e0 e40 ek ⊢
      simp [execOp, go_sem, e0] <;> first | omega | (intro hx9; exact absurd hx9 (by omega))
    | 27, _, hr =>
      have e41 : a'.eval (.tmp 41) = (.pointer (some ⟨g, 0, none⟩)) := hJ.ex (j := 26) rfl hr (by kernel_rfl)
      have e40 : a'.eval (.tmp 40) = (.bool true) := hJ.ex (j := 25) rfl hr (by kernel_rfl)
      refine hJ.call_ hT rfl rfl rfl ((wanted_of (k := 25) (b := true) rfl rfl rfl e40).trans (by decide)) 17 #[.pointer (some ⟨g, 0, none⟩)] ?_ ?_
      · have hent := enters_of Try.func17 (by kernel_rfl) rfl #[.pointer (some ⟨g, 0, none⟩)] w'
        have ek : ∀ v, a'.eval (.const v) = v := fun _ => rfl
        have ef : ∀ f, a'.eval (.func f) = .func (.func f) #[] #[] := fun _ => rfl
        clear hJ hr hT
        generalize a'.eval = ev at *
        simp [execOp, resolve, invoke, Deferred.ofValue, go_sem, hent, ef, e41]
      · refine (co_cur (Z2.out.a.grows hJ.grows) c.s.cur rfl).mono ?_
        rintro e w5 ⟨rfl, hw⟩
        exact ⟨_, rfl, hw ▸ Grows.refl _, rfl⟩
    | 28, _, hr =>
      have e1 : a'.eval (.tmp 1) = (.pointer (some ⟨g2, 0, none⟩)) := hJ.old 1 rfl (by simp)
      have e40 : a'.eval (.tmp 40) = (.bool true) := hJ.ex (j := 25) rfl hr (by kernel_rfl)
      refine hJ.pure_ hT rfl rfl rfl ((wanted_of (k := 25) (b := true) rfl rfl rfl e40).trans (by decide)) (.pointer (some ⟨g2, 0, none⟩)) ?_ rfl
      have ek : ∀ v, a'.eval (.const v) = v := fun _ => rfl
      generalize a'.eval = ev at e1 e40 ek ⊢
      simp [execOp, go_sem, e1] <;> first | omega | (intro hx9; exact absurd hx9 (by omega))
    | 29, _, hr =>
      have e43 : a'.eval (.tmp 43) = (.pointer (some ⟨g2, 0, none⟩)) := hJ.ex (j := 28) rfl hr (by kernel_rfl)
      have e40 : a'.eval (.tmp 40) = (.bool true) := hJ.ex (j := 25) rfl hr (by kernel_rfl)
      refine hJ.pure_ hT rfl rfl rfl ((wanted_of (k := 25) (b := true) rfl rfl rfl e40).trans (by decide)) (.pointer (some ⟨g2, 0, none⟩)) ?_ rfl
      have ek : ∀ v, a'.eval (.const v) = v := fun _ => rfl
      generalize a'.eval = ev at e43 e40 ek ⊢
      simp [execOp, go_sem, e43] <;> first | omega | (intro hx9; exact absurd hx9 (by omega))
    | 30, _, hr =>
      have e44 : a'.eval (.tmp 44) = (.pointer (some ⟨g2, 0, none⟩)) := hJ.ex (j := 29) rfl hr (by kernel_rfl)
      have e40 : a'.eval (.tmp 40) = (.bool true) := hJ.ex (j := 25) rfl hr (by kernel_rfl)
      refine hJ.pure_ hT rfl rfl rfl ((wanted_of (k := 25) (b := true) rfl rfl rfl e40).trans (by decide)) (.pointer (some ⟨g2, 0, none⟩)) ?_ rfl
      have ek : ∀ v, a'.eval (.const v) = v := fun _ => rfl
      generalize a'.eval = ev at e44 e40 ek ⊢
      simp [execOp, go_sem, e44] <;> first | omega | (intro hx9; exact absurd hx9 (by omega))
    | 31, _, hr =>
      have e45 : a'.eval (.tmp 45) = (.pointer (some ⟨g2, 0, none⟩)) := hJ.ex (j := 30) rfl hr (by kernel_rfl)
      have e40 : a'.eval (.tmp 40) = (.bool true) := hJ.ex (j := 25) rfl hr (by kernel_rfl)
      refine hJ.pure_ hT rfl rfl rfl ((wanted_of (k := 25) (b := true) rfl rfl rfl e40).trans (by decide)) (.pointer (some ⟨g2, 1, none⟩)) ?_ rfl
      have ek : ∀ v, a'.eval (.const v) = v := fun _ => rfl
      generalize a'.eval = ev at e45 e40 ek ⊢
      simp [execOp, go_sem, e45] <;> first | omega | (intro hx9; exact absurd hx9 (by omega))
    | 32, _, hr =>
      have e46 : a'.eval (.tmp 46) = (.pointer (some ⟨g2, 1, none⟩)) := hJ.ex (j := 31) rfl hr (by kernel_rfl)
      have e40 : a'.eval (.tmp 40) = (.bool true) := hJ.ex (j := 25) rfl hr (by kernel_rfl)
      refine hJ.pure_ hT rfl rfl rfl ((wanted_of (k := 25) (b := true) rfl rfl rfl e40).trans (by decide)) (.int .i64 c.s.cur) ?_ rfl
      have ek : ∀ v, a'.eval (.const v) = v := fun _ => rfl
      generalize a'.eval = ev at e46 e40 ek ⊢
      simp [execOp, go_sem, e46, u1] <;> first | omega | (intro hx9; exact absurd hx9 (by omega))
    | 33, _, hr =>
      have e42 : a'.eval (.tmp 42) = (.int .i64 c.s.cur) := hJ.ex (j := 27) rfl hr (by kernel_rfl)
      have e47 : a'.eval (.tmp 47) = (.int .i64 c.s.cur) := hJ.ex (j := 32) rfl hr (by kernel_rfl)
      have e40 : a'.eval (.tmp 40) = (.bool true) := hJ.ex (j := 25) rfl hr (by kernel_rfl)
      refine hJ.pure_ hT rfl rfl rfl ((wanted_of (k := 25) (b := true) rfl rfl rfl e40).trans (by decide)) (.bool true) ?_ rfl
      have ek : ∀ v, a'.eval (.const v) = v := fun _ => rfl
      generalize a'.eval = ev at e42 e47 e40 ek ⊢
      simp [execOp, go_sem, e42, e47] <;> first | omega | (intro hx9; exact absurd hx9 (by omega))
    | 34, _, hr =>
      have e40 : a'.eval (.tmp 40) = (.bool true) := hJ.ex (j := 25) rfl hr (by kernel_rfl)
      have e48 : a'.eval (.tmp 48) = (.bool true) := hJ.ex (j := 33) rfl hr (by kernel_rfl)
      refine hJ.pure_ hT rfl rfl rfl rfl (.bool true) ?_ rfl
      have ek : ∀ v, a'.eval (.const v) = v := fun _ => rfl
      generalize a'.eval = ev at e40 e48 ek ⊢
      simp [execOp, go_sem, ek, e40, e48] <;> first | omega | (intro hx9; exact absurd hx9 (by omega))
    | 35, _, hr =>
      have e49 : a'.eval (.tmp 49) = (.bool true) := hJ.ex (j := 34) rfl hr (by kernel_rfl)
      refine hJ.pure_ hT rfl rfl rfl rfl (.bool true) ?_ rfl
      have ek : ∀ v, a'.eval (.const v) = v := fun _ => rfl
      generalize a'.eval = ev at e49 ek ⊢
      simp [execOp, go_sem, e49] <;> first | omega | (intro hx9; exact absurd hx9 (by omega))
    | 36, _, hr =>
      have e5 : a'.eval (.tmp 5) = (.pointer (some ⟨vb, 0, none⟩)) := hJ.old 5 rfl (by simp)
      have e50 : a'.eval (.tmp 50) = (.bool true) := hJ.ex (j := 35) rfl hr (by kernel_rfl)
      refine hJ.pure_ hT rfl rfl rfl ((wanted_of (k := 35) (b := true) rfl rfl rfl e50).trans (by decide)) (.pointer (some ⟨vb, 1, none⟩)) ?_ rfl
      have ek : ∀ v, a'.eval (.const v) = v := fun _ => rfl
      generalize a'.eval = ev at e5 e50 ek ⊢
      simp [execOp, go_sem, e5] <;> first | omega | (intro hx9; exact absurd hx9 (by omega))
    | 37, _, hr =>
      have e51 : a'.eval (.tmp 51) = (.pointer (some ⟨vb, 1, none⟩)) := hJ.ex (j := 36) rfl hr (by kernel_rfl)
      have e50 : a'.eval (.tmp 50) = (.bool true) := hJ.ex (j := 35) rfl hr (by kernel_rfl)
      refine hJ.pure_ hT rfl rfl rfl ((wanted_of (k := 35) (b := true) rfl rfl rfl e50).trans (by decide)) (.int .i64 c.s.cur) ?_ rfl
      have ek : ∀ v, a'.eval (.const v) = v := fun _ => rfl
      generalize a'.eval = ev at e51 e50 ek ⊢
      simp [execOp, go_sem, e51, v1] <;> first | omega | (intro hx9; exact absurd hx9 (by omega))
    | 38, _, hr =>
      have e1 : a'.eval (.tmp 1) = (.pointer (some ⟨g2, 0, none⟩)) := hJ.old 1 rfl (by simp)
      have e50 : a'.eval (.tmp 50) = (.bool true) := hJ.ex (j := 35) rfl hr (by kernel_rfl)
      refine hJ.pure_ hT rfl rfl rfl ((wanted_of (k := 35) (b := true) rfl rfl rfl e50).trans (by decide)) (.pointer (some ⟨g2, 0, none⟩)) ?_ rfl
      have ek : ∀ v, a'.eval (.const v) = v := fun _ => rfl
      generalize a'.eval = ev at e1 e50 ek ⊢
      simp [execOp, go_sem, e1] <;> first | omega | (intro hx9; exact absurd hx9 (by omega))
    | 39, _, hr =>
      have e53 : a'.eval (.tmp 53) = (.pointer (some ⟨g2, 0, none⟩)) := hJ.ex (j := 38) rfl hr (by kernel_rfl)
      have e50 : a'.eval (.tmp 50) = (.bool true) := hJ.ex (j := 35) rfl hr (by kernel_rfl)
      refine hJ.pure_ hT rfl rfl rfl ((wanted_of (k := 35) (b := true) rfl rfl rfl e50).trans (by decide)) (.pointer (some ⟨g2, 0, none⟩)) ?_ rfl
      have ek : ∀ v, a'.eval (.const v) = v := fun _ => rfl
      generalize a'.eval = ev at e53 e50 ek ⊢
      simp [execOp, go_sem, e53] <;> first | omega | (intro hx9; exact absurd hx9 (by omega))
    | 40, _, hr =>
      have e54 : a'.eval (.tmp 54) = (.pointer (some ⟨g2, 0, none⟩)) := hJ.ex (j := 39) rfl hr (by kernel_rfl)
      have e50 : a'.eval (.tmp 50) = (.bool true) := hJ.ex (j := 35) rfl hr (by kernel_rfl)
      refine hJ.pure_ hT rfl rfl rfl ((wanted_of (k := 35) (b := true) rfl rfl rfl e50).trans (by decide)) (.pointer (some ⟨g2, 0, none⟩)) ?_ rfl
      have ek : ∀ v, a'.eval (.const v) = v := fun _ => rfl
      generalize a'.eval = ev at e54 e50 ek ⊢
      simp [execOp, go_sem, e54] <;> first | omega | (intro hx9; exact absurd hx9 (by omega))
    | 41, _, hr =>
      have e55 : a'.eval (.tmp 55) = (.pointer (some ⟨g2, 0, none⟩)) := hJ.ex (j := 40) rfl hr (by kernel_rfl)
      have e50 : a'.eval (.tmp 50) = (.bool true) := hJ.ex (j := 35) rfl hr (by kernel_rfl)
      refine hJ.pure_ hT rfl rfl rfl ((wanted_of (k := 35) (b := true) rfl rfl rfl e50).trans (by decide)) (.pointer (some ⟨g2, 1, none⟩)) ?_ rfl
      have ek : ∀ v, a'.eval (.const v) = v := fun _ => rfl
      generalize a'.eval = ev at e55 e50 ek ⊢
      simp [execOp, go_sem, e55] <;> first | omega | (intro hx9; exact absurd hx9 (by omega))
    | 42, _, hr =>
      have e56 : a'.eval (.tmp 56) = (.pointer (some ⟨g2, 1, none⟩)) := hJ.ex (j := 41) rfl hr (by kernel_rfl)
      have e50 : a'.eval (.tmp 50) = (.bool true) := hJ.ex (j := 35) rfl hr (by kernel_rfl)
      refine hJ.pure_ hT rfl rfl rfl ((wanted_of (k := 35) (b := true) rfl rfl rfl e50).trans (by decide)) (.int .i64 c.s.cur) ?_ rfl
      have ek : ∀ v, a'.eval (.const v) = v := fun _ => rfl
      generalize a'.eval = ev at e56 e50 ek ⊢
      simp [execOp, go_sem, e56, u1] <;> first | omega | (intro hx9; exact absurd hx9 (by omega))
    | 43, _, hr =>
      have e52 : a'.eval (.tmp 52) = (.int .i64 c.s.cur) := hJ.ex (j := 37) rfl hr (by kernel_rfl)
      have e57 : a'.eval (.tmp 57) = (.int .i64 c.s.cur) := hJ.ex (j := 42) rfl hr (by kernel_rfl)
      have e50 : a'.eval (.tmp 50) = (.bool true) := hJ.ex (j := 35) rfl hr (by kernel_rfl)
      refine hJ.pure_ hT rfl rfl rfl ((wanted_of (k := 35) (b := true) rfl rfl rfl e50).trans (by decide)) (.bool true) ?_ rfl
      have ek : ∀ v, a'.eval (.const v) = v := fun _ => rfl
      generalize a'.eval = ev at e52 e57 e50 ek ⊢
      simp [execOp, go_sem, e52, e57] <;> first | omega | (intro hx9; exact absurd hx9 (by omega))
    | 44, _, hr =>
      have e50 : a'.eval (.tmp 50) = (.bool true) := hJ.ex (j := 35) rfl hr (by kernel_rfl)
      have e58 : a'.eval (.tmp 58) = (.bool true) := hJ.ex (j := 43) rfl hr (by kernel_rfl)
      refine hJ.pure_ hT rfl rfl rfl rfl (.bool true) ?_ rfl
      have ek : ∀ v, a'.eval (.const v) = v := fun _ => rfl
      generalize a'.eval = ev at e50 e58 ek ⊢
      simp [execOp, go_sem, ek, e50, e58] <;> first | omega | (intro hx9; exact absurd hx9 (by omega))
    | 45, _, hr =>
      have e59 : a'.eval (.tmp 59) = (.bool true) := hJ.ex (j := 44) rfl hr (by kernel_rfl)
      refine hJ.pure_ hT rfl rfl rfl rfl (.bool true) ?_ rfl
      have ek : ∀ v, a'.eval (.const v) = v := fun _ => rfl
      generalize a'.eval = ev at e59 ek ⊢
      simp [execOp, go_sem, e59] <;> first | omega | (intro hx9; exact absurd hx9 (by omega))
    | 46, _, hr =>
      have e5 : a'.eval (.tmp 5) = (.pointer (some ⟨vb, 0, none⟩)) := hJ.old 5 rfl (by simp)
      have e60 : a'.eval (.tmp 60) = (.bool true) := hJ.ex (j := 45) rfl hr (by kernel_rfl)
      refine hJ.pure_ hT rfl rfl rfl ((wanted_of (k := 45) (b := true) rfl rfl rfl e60).trans (by decide)) (.pointer (some ⟨vb, 2, none⟩)) ?_ rfl
      have ek : ∀ v, a'.eval (.const v) = v := fun _ => rfl
      generalize a'.eval = ev at e5 e60 ek ⊢
      simp [execOp, go_sem, e5] <;> first | omega | (intro hx9; exact absurd hx9 (by omega))
    | 47, _, hr =>
      have e61 : a'.eval (.tmp 61) = (.pointer (some ⟨vb, 2, none⟩)) := hJ.ex (j := 46) rfl hr (by kernel_rfl)
      have e60 : a'.eval (.tmp 60) = (.bool true) := hJ.ex (j := 45) rfl hr (by kernel_rfl)
      refine hJ.pure_ hT rfl rfl rfl ((wanted_of (k := 45) (b := true) rfl rfl rfl e60).trans (by decide)) (.agg (MA c.s.ms)) ?_ rfl
      have ek : ∀ v, a'.eval (.const v) = v := fun _ => rfl
      generalize a'.eval = ev at e61 e60 ek ⊢
      simp [execOp, go_sem, e61, vs, vz] <;> first | omega | (intro hx9; exact absurd hx9 (by omega))
    | 48, _, hr =>
      have e1 : a'.eval (.tmp 1) = (.pointer (some ⟨g2, 0, none⟩)) := hJ.old 1 rfl (by simp)
      have e60 : a'.eval (.tmp 60) = (.bool true) := hJ.ex (j := 45) rfl hr (by kernel_rfl)
      refine hJ.pure_ hT rfl rfl rfl ((wanted_of (k := 45) (b := true) rfl rfl rfl e60).trans (by decide)) (.pointer (some ⟨g2, 0, none⟩)) ?_ rfl
      have ek : ∀ v, a'.eval (.const v) = v := fun _ => rfl
      generalize a'.eval = ev at e1 e60 ek ⊢
      simp [execOp, go_sem, e1] <;> first | omega | (intro hx9; exact absurd hx9 (by omega))
    | 49, _, hr =>
      have e63 : a'.eval (.tmp 63) = (.pointer (some ⟨g2, 0, none⟩)) := hJ.ex (j := 48) rfl hr (by kernel_rfl)
      have e60 : a'.eval (.tmp 60) = (.bool true) := hJ.ex (j := 45) rfl hr (by kernel_rfl)
      refine hJ.pure_ hT rfl rfl rfl ((wanted_of (k := 45) (b := true) rfl rfl rfl e60).trans (by decide)) (.pointer (some ⟨g2, 0, none⟩)) ?_ rfl
      have ek : ∀ v, a'.eval (.const v) = v := fun _ => rfl
      generalize a'.eval = ev at e63 e60 ek ⊢
      simp [execOp, go_sem, e63] <;> first | omega | (intro hx9; exact absurd hx9 (by omega))
    | 50, _, hr =>
      have e64 : a'.eval (.tmp 64) = (.pointer (some ⟨g2, 0, none⟩)) := hJ.ex (j := 49) rfl hr (by kernel_rfl)
      have e60 : a'.eval (.tmp 60) = (.bool true) := hJ.ex (j := 45) rfl hr (by kernel_rfl)
      refine hJ.pure_ hT rfl rfl rfl ((wanted_of (k := 45) (b := true) rfl rfl rfl e60).trans (by decide)) (.pointer (some ⟨g2, 0, none⟩)) ?_ rfl
      have ek : ∀ v, a'.eval (.const v) = v := fun _ => rfl
      generalize a'.eval = ev at e64 e60 ek ⊢
      simp [execOp, go_sem, e64] <;> first | omega | (intro hx9; exact absurd hx9 (by omega))
    | 51, _, hr =>
      have e65 : a'.eval (.tmp 65) = (.pointer (some ⟨g2, 0, none⟩)) := hJ.ex (j := 50) rfl hr (by kernel_rfl)
      have e60 : a'.eval (.tmp 60) = (.bool true) := hJ.ex (j := 45) rfl hr (by kernel_rfl)
      refine hJ.pure_ hT rfl rfl rfl ((wanted_of (k := 45) (b := true) rfl rfl rfl e60).trans (by decide)) (.pointer (some ⟨g2, 2, none⟩)) ?_ rfl
      have ek : ∀ v, a'.eval (.const v) = v := fun _ => rfl
      generalize a'.eval = ev at e65 e60 ek ⊢
      simp [execOp, go_sem, e65] <;> first | omega | (intro hx9; exact absurd hx9 (by omega))
    | 52, _, hr =>
      have e66 : a'.eval (.tmp 66) = (.pointer (some ⟨g2, 2, none⟩)) := hJ.ex (j := 51) rfl hr (by kernel_rfl)
      have e60 : a'.eval (.tmp 60) = (.bool true) := hJ.ex (j := 45) rfl hr (by kernel_rfl)
      refine hJ.pure_ hT rfl rfl rfl ((wanted_of (k := 45) (b := true) rfl rfl rfl e60).trans (by decide)) (.agg (MA c.s.ms)) ?_ rfl
      have ek : ∀ v, a'.eval (.const v) = v := fun _ => rfl
      generalize a'.eval = ev at e66 e60 ek ⊢
      simp [execOp, go_sem, e66, us, uz] <;> first | omega | (intro hx9; exact absurd hx9 (by omega))
    | 53, _, hr =>
      have e62 : a'.eval (.tmp 62) = (.agg (MA c.s.ms)) := hJ.ex (j := 47) rfl hr (by kernel_rfl)
      have e67 : a'.eval (.tmp 67) = (.agg (MA c.s.ms)) := hJ.ex (j := 52) rfl hr (by kernel_rfl)
      have e60 : a'.eval (.tmp 60) = (.bool true) := hJ.ex (j := 45) rfl hr (by kernel_rfl)
      refine hJ.pure_ hT rfl rfl rfl ((wanted_of (k := 45) (b := true) rfl rfl rfl e60).trans (by decide)) (.bool true) ?_ rfl
      have ek : ∀ v, a'.eval (.const v) = v := fun _ => rfl
      generalize a'.eval = ev at e62 e67 e60 ek ⊢
      simp [execOp, go_sem, e62, e67, hms] <;> first | omega | (intro hx9; exact absurd hx9 (by omega))
    | 54, _, hr =>
      have e60 : a'.eval (.tmp 60) = (.bool true) := hJ.ex (j := 45) rfl hr (by kernel_rfl)
      have e68 : a'.eval (.tmp 68) = (.bool true) := hJ.ex (j := 53) rfl hr (by kernel_rfl)
      refine hJ.pure_ hT rfl rfl rfl rfl (.bool true) ?_ rfl
      have ek : ∀ v, a'.eval (.const v) = v := fun _ => rfl
      generalize a'.eval = ev at e60 e68 ek ⊢
      simp [execOp, go_sem, ek, e60, e68] <;> first | omega | (intro hx9; exact absurd hx9 (by omega))
    | 55, _, hr =>
      have e69 : a'.eval (.tmp 69) = (.bool true) := hJ.ex (j := 54) rfl hr (by kernel_rfl)
      refine hJ.pure_ hT rfl rfl rfl rfl (.bool true) ?_ rfl
      have ek : ∀ v, a'.eval (.const v) = v := fun _ => rfl
      generalize a'.eval = ev at e69 ek ⊢
      simp [execOp, go_sem, e69] <;> first | omega | (intro hx9; exact absurd hx9 (by omega))
    | 56, _, hr =>
      have e5 : a'.eval (.tmp 5) = (.pointer (some ⟨vb, 0, none⟩)) := hJ.old 5 rfl (by simp)
      have e70 : a'.eval (.tmp 70) = (.bool true) := hJ.ex (j := 55) rfl hr (by kernel_rfl)
      refine hJ.pure_ hT rfl rfl rfl ((wanted_of (k := 55) (b := true) rfl rfl rfl e70).trans (by decide)) (.pointer (some ⟨vb, 28, none⟩)) ?_ rfl
      have ek : ∀ v, a'.eval (.const v) = v := fun _ => rfl
      generalize a'.eval = ev at e5 e70 ek ⊢
      simp [execOp, go_sem, e5] <;> first | omega | (intro hx9; exact absurd hx9 (by omega))
    | 57, _, hr =>
      have e71 : a'.eval (.tmp 71) = (.pointer (some ⟨vb, 28, none⟩)) := hJ.ex (j := 56) rfl hr (by kernel_rfl)
      have e70 : a'.eval (.tmp 70) = (.bool true) := hJ.ex (j := 55) rfl hr (by kernel_rfl)
      refine hJ.pure_ hT rfl rfl rfl ((wanted_of (k := 55) (b := true) rfl rfl rfl e70).trans (by decide)) (.string (tx c.last)) ?_ rfl
      have ek : ∀ v, a'.eval (.const v) = v := fun _ => rfl
      generalize a'.eval = ev at e71 e70 ek ⊢
      simp [execOp, go_sem, e71, v28] <;> first | omega | (intro hx9; exact absurd hx9 (by omega))
    | 58, _, hr =>
      have e1 : a'.eval (.tmp 1) = (.pointer (some ⟨g2, 0, none⟩)) := hJ.old 1 rfl (by simp)
      have e70 : a'.eval (.tmp 70) = (.bool true) := hJ.ex (j := 55) rfl hr (by kernel_rfl)
      refine hJ.pure_ hT rfl rfl rfl ((wanted_of (k := 55) (b := true) rfl rfl rfl e70).trans (by decide)) (.pointer (some ⟨g2, 0, none⟩)) ?_ rfl
      have ek : ∀ v, a'.eval (.const v) = v := fun _ => rfl
      generalize a'.eval = ev at e1 e70 ek ⊢
      simp [execOp, go_sem, e1] <;> first | omega | (intro hx9; exact absurd hx9 (by omega))
    | 59, _, hr =>
      have e73 : a'.eval (.tmp 73) = (.pointer (some ⟨g2, 0, none⟩)) := hJ.ex (j := 58) rfl hr (by kernel_rfl)
      have e70 : a'.eval (.tmp 70) = (.bool true) := hJ.ex (j := 55) rfl hr (by kernel_rfl)
      refine hJ.pure_ hT rfl rfl rfl ((wanted_of (k := 55) (b := true) rfl rfl rfl e70).trans (by decide)) (.pointer (some ⟨g2, 0, none⟩)) ?_ rfl
      have ek : ∀ v, a'.eval (.const v) = v := fun _ => rfl
      generalize a'.eval = ev at e73 e70 ek ⊢
      simp [execOp, go_sem, e73] <;> first | omega | (intro hx9; exact absurd hx9 (by omega))
    | 60, _, hr =>
      have e74 : a'.eval (.tmp 74) = (.pointer (some ⟨g2, 0, none⟩)) := hJ.ex (j := 59) rfl hr (by kernel_rfl)
      have e70 : a'.eval (.tmp 70) = (.bool true) := hJ.ex (j := 55) rfl hr (by kernel_rfl)
      refine hJ.pure_ hT rfl rfl rfl ((wanted_of (k := 55) (b := true) rfl rfl rfl e70).trans (by decide)) (.pointer (some ⟨g2, 28, none⟩)) ?_ rfl
      have ek : ∀ v, a'.eval (.const v) = v := fun _ => rfl
      generalize a'.eval = ev at e74 e70 ek ⊢
      simp [execOp, go_sem, e74] <;> first | omega | (intro hx9; exact absurd hx9 (by omega))
    | 61, _, hr =>
      have e75 : a'.eval (.tmp 75) = (.pointer (some ⟨g2, 28, none⟩)) := hJ.ex (j := 60) rfl hr (by kernel_rfl)
      have e70 : a'.eval (.tmp 70) = (.bool true) := hJ.ex (j := 55) rfl hr (by kernel_rfl)
      refine hJ.pure_ hT rfl rfl rfl ((wanted_of (k := 55) (b := true) rfl rfl rfl e70).trans (by decide)) (.string (tx c.last)) ?_ rfl
      have ek : ∀ v, a'.eval (.const v) = v := fun _ => rfl
      generalize a'.eval = ev at e75 e70 ek ⊢
      simp [execOp, go_sem, e75, u28] <;> first | omega | (intro hx9; exact absurd hx9 (by omega))
    | 62, _, hr =>
      have e72 : a'.eval (.tmp 72) = (.string (tx c.last)) := hJ.ex (j := 57) rfl hr (by kernel_rfl)
      have e76 : a'.eval (.tmp 76) = (.string (tx c.last)) := hJ.ex (j := 61) rfl hr (by kernel_rfl)
      have e70 : a'.eval (.tmp 70) = (.bool true) := hJ.ex (j := 55) rfl hr (by kernel_rfl)
      refine hJ.pure_ hT rfl rfl rfl ((wanted_of (k := 55) (b := true) rfl rfl rfl e70).trans (by decide)) (.bool true) ?_ rfl
      have ek : ∀ v, a'.eval (.const v) = v := fun _ => rfl
      generalize a'.eval = ev at e72 e76 e70 ek ⊢
      simp [execOp, go_sem, e72, e76] <;> first | omega | (intro hx9; exact absurd hx9 (by omega))
    | 63, _, hr =>
      have e70 : a'.eval (.tmp 70) = (.bool true) := hJ.ex (j := 55) rfl hr (by kernel_rfl)
      have e77 : a'.eval (.tmp 77) = (.bool true) := hJ.ex (j := 62) rfl hr (by kernel_rfl)
      refine hJ.pure_ hT rfl rfl rfl rfl (.bool true) ?_ rfl
      have ek : ∀ v, a'.eval (.const v) = v := fun _ => rfl
      generalize a'.eval = ev at e70 e77 ek ⊢
      simp [execOp, go_sem, ek, e70, e77] <;> first | omega | (intro hx9; exact absurd hx9 (by omega))
    | 64, _, hr =>
      have e78 : a'.eval (.tmp 78) = (.bool true) := hJ.ex (j := 63) rfl hr (by kernel_rfl)
      refine hJ.pure_ hT rfl rfl rfl rfl (.bool true) ?_ rfl
      have ek : ∀ v, a'.eval (.const v) = v := fun _ => rfl
      generalize a'.eval = ev at e78 ek ⊢
      simp [execOp, go_sem, e78] <;> first | omega | (intro hx9; exact absurd hx9 (by omega))
    | 65, _, hr =>
      have e0 : a'.eval (.tmp 0) = (.pointer (some ⟨g, 0, none⟩)) := hJ.old 0 rfl (by simp)
      have e79 : a'.eval (.tmp 79) = (.bool true) := hJ.ex (j := 64) rfl hr (by kernel_rfl)
      refine hJ.pure_ hT rfl rfl rfl ((wanted_of (k := 64) (b := true) rfl rfl rfl e79).trans (by decide)) (.pointer (some ⟨g, 0, none⟩)) ?_ rfl
      have ek : ∀ v, a'.eval (.const v) = v := fun _ => rfl
      generalize a'.eval = ev at e0 e79 ek ⊢
      simp [execOp, go_sem, e0] <;> first | omega | (intro hx9; exact absurd hx9 (by omega))
    | 66, _, hr =>
      have e80 : a'.eval (.tmp 80) = (.pointer (some ⟨g, 0, none⟩)) := hJ.ex (j := 65) rfl hr (by kernel_rfl)
      have e79 : a'.eval (.tmp 79) = (.bool true) := hJ.ex (j := 64) rfl hr (by kernel_rfl)
      refine hJ.call_ hT rfl rfl rfl ((wanted_of (k := 64) (b := true) rfl rfl rfl e79).trans (by decide)) 21 #[.pointer (some ⟨g, 0, none⟩)] ?_ ?_
      · have hent := enters_of Try.func21 (by kernel_rfl) rfl #[.pointer (some ⟨g, 0, none⟩)] w'
        have ek : ∀ v, a'.eval (.const v) = v := fun _ => rfl
        have ef : ∀ f, a'.eval (.func f) = .func (.func f) #[] #[] := fun _ => rfl
        clear hJ hr hT
        generalize a'.eval = ev at *
        simp [execOp, resolve, invoke, Deferred.ofValue, go_sem, hent, ef, e80]
      · refine (co_dirty (Z2.out.a.grows hJ.grows) c.dirty rfl).mono ?_
        rintro e w5 ⟨rfl, hw⟩
        exact ⟨_, rfl, hw ▸ Grows.refl _, rfl⟩
    | 67, _, hr =>
      have e1 : a'.eval (.tmp 1) = (.pointer (some ⟨g2, 0, none⟩)) := hJ.old 1 rfl (by simp)
      have e79 : a'.eval (.tmp 79) = (.bool true) := hJ.ex (j := 64) rfl hr (by kernel_rfl)
      refine hJ.pure_ hT rfl rfl rfl ((wanted_of (k := 64) (b := true) rfl rfl rfl e79).trans (by decide)) (.pointer (some ⟨g2, 0, none⟩)) ?_ rfl
      have ek : ∀ v, a'.eval (.const v) = v := fun _ => rfl
      generalize a'.eval = ev at e1 e79 ek ⊢
      simp [execOp, go_sem, e1] <;> first | omega | (intro hx9; exact absurd hx9 (by omega))
    | 68, _, hr =>
      have e82 : a'.eval (.tmp 82) = (.pointer (some ⟨g2, 0, none⟩)) := hJ.ex (j := 67) rfl hr (by kernel_rfl)
      have e79 : a'.eval (.tmp 79) = (.bool true) := hJ.ex (j := 64) rfl hr (by kernel_rfl)
      refine hJ.pure_ hT rfl rfl rfl ((wanted_of (k := 64) (b := true) rfl rfl rfl e79).trans (by decide)) (.pointer (some ⟨g2, 0, none⟩)) ?_ rfl
      have ek : ∀ v, a'.eval (.const v) = v := fun _ => rfl
      generalize a'.eval = ev at e82 e79 ek ⊢
      simp [execOp, go_sem, e82] <;> first | omega | (intro hx9; exact absurd hx9 (by omega))
    | 69, _, hr =>
      have e83 : a'.eval (.tmp 83) = (.pointer (some ⟨g2, 0, none⟩)) := hJ.ex (j := 68) rfl hr (by kernel_rfl)
      have e79 : a'.eval (.tmp 79) = (.bool true) := hJ.ex (j := 64) rfl hr (by kernel_rfl)
      refine hJ.pure_ hT rfl rfl rfl ((wanted_of (k := 64) (b := true) rfl rfl rfl e79).trans (by decide)) (.pointer (some ⟨g2, 30, none⟩)) ?_ rfl
      have ek : ∀ v, a'.eval (.const v) = v := fun _ => rfl
      generalize a'.eval = ev at e83 e79 ek ⊢
      simp [execOp, go_sem, e83] <;> first | omega | (intro hx9; exact absurd hx9 (by omega))
    | 70, _, hr =>
      have e84 : a'.eval (.tmp 84) = (.pointer (some ⟨g2, 30, none⟩)) := hJ.ex (j := 69) rfl hr (by kernel_rfl)
      have e79 : a'.eval (.tmp 79) = (.bool true) := hJ.ex (j := 64) rfl hr (by kernel_rfl)
      refine hJ.pure_ hT rfl rfl rfl ((wanted_of (k := 64) (b := true) rfl rfl rfl e79).trans (by decide)) (.bool c.dirty) ?_ rfl
      have ek : ∀ v, a'.eval (.const v) = v := fun _ => rfl
      generalize a'.eval = ev at e84 e79 ek ⊢
      simp [execOp, go_sem, e84, u30] <;> first | omega | (intro hx9; exact absurd hx9 (by omega))
    | 71, _, hr =>
      have e81 : a'.eval (.tmp 81) = (.bool c.dirty) := hJ.ex (j := 66) rfl hr (by kernel_rfl)
      have e85 : a'.eval (.tmp 85) = (.bool c.dirty) := hJ.ex (j := 70) rfl hr (by kernel_rfl)
      have e79 : a'.eval (.tmp 79) = (.bool true) := hJ.ex (j := 64) rfl hr (by kernel_rfl)
      refine hJ.pure_ hT rfl rfl rfl ((wanted_of (k := 64) (b := true) rfl rfl rfl e79).trans (by decide)) (.bool true) ?_ rfl
      have ek : ∀ v, a'.eval (.const v) = v := fun _ => rfl
      generalize a'.eval = ev at e81 e85 e79 ek ⊢
      simp [execOp, go_sem, e81, e85] <;> first | omega | (intro hx9; exact absurd hx9 (by omega))
    | 72, _, hr =>
      have e79 : a'.eval (.tmp 79) = (.bool true) := hJ.ex (j := 64) rfl hr (by kernel_rfl)
      have e86 : a'.eval (.tmp 86) = (.bool true) := hJ.ex (j := 71) rfl hr (by kernel_rfl)
      refine hJ.pure_ hT rfl rfl rfl rfl (.bool true) ?_ rfl
      have ek : ∀ v, a'.eval (.const v) = v := fun _ => rfl
      generalize a'.eval = ev at e79 e86 ek ⊢
      simp [execOp, go_sem, ek, e79, e86] <;> first | omega | (intro hx9; exact absurd hx9 (by omega))
    | 73, _, hr =>
      have e87 : a'.eval (.tmp 87) = (.bool true) := hJ.ex (j := 72) rfl hr (by kernel_rfl)
      refine hJ.pure_ hT rfl rfl rfl rfl (.bool true) ?_ rfl
      have ek : ∀ v, a'.eval (.const v) = v := fun _ => rfl
      generalize a'.eval = ev at e87 ek ⊢
      simp [execOp, go_sem, e87] <;> first | omega | (intro hx9; exact absurd hx9 (by omega))
    | 74, _, hr =>
      have e0 : a'.eval (.tmp 0) = (.pointer (some ⟨g, 0, none⟩)) := hJ.old 0 rfl (by simp)
      have e88 : a'.eval (.tmp 88) = (.bool true) := hJ.ex (j := 73) rfl hr (by kernel_rfl)
      refine hJ.pure_ hT rfl rfl rfl ((wanted_of (k := 73) (b := true) rfl rfl rfl e88).trans (by decide)) (.pointer (some ⟨g, 0, none⟩)) ?_ rfl
      have ek : ∀ v, a'.eval (.const v) = v := fun _ => rfl
      generalize a'.eval = ev at e0 e88 ek ⊢
      simp [execOp, go_sem, e0] <;> first | omega | (intro hx9; exact absurd hx9 (by omega))
    | 75, _, hr =>
      have e89 : a'.eval (.tmp 89) = (.pointer (some ⟨g, 0, none⟩)) := hJ.ex (j := 74) rfl hr (by kernel_rfl)
      have e88 : a'.eval (.tmp 88) = (.bool true) := hJ.ex (j := 73) rfl hr (by kernel_rfl)
      refine hJ.call_ hT rfl rfl rfl ((wanted_of (k := 73) (b := true) rfl rfl rfl e88).trans (by decide)) 20 #[.pointer (some ⟨g, 0, none⟩)] ?_ ?_
      · have hent := enters_of Try.func20 (by kernel_rfl) rfl #[.pointer (some ⟨g, 0, none⟩)] w'
        have ek : ∀ v, a'.eval (.const v) = v := fun _ => rfl
        have ef : ∀ f, a'.eval (.func f) = .func (.func f) #[] #[] := fun _ => rfl
        clear hJ hr hT
        generalize a'.eval = ev at *
        simp [execOp, resolve, invoke, Deferred.ofValue, go_sem, hent, ef, e89]
      · refine (rat_regs (P2.out.grows hJ.grows)).mono ?_
        rintro e w5 ⟨rfl, hw⟩
        exact ⟨_, rfl, hw ▸ Grows.refl _, rfl⟩
    | 76, _, hr =>
      have e1 : a'.eval (.tmp 1) = (.pointer (some ⟨g2, 0, none⟩)) := hJ.old 1 rfl (by simp)
      have e88 : a'.eval (.tmp 88) = (.bool true) := hJ.ex (j := 73) rfl hr (by kernel_rfl)
      refine hJ.pure_ hT rfl rfl rfl ((wanted_of (k := 73) (b := true) rfl rfl rfl e88).trans (by decide)) (.pointer (some ⟨g2, 0, none⟩)) ?_ rfl
      have ek : ∀ v, a'.eval (.const v) = v := fun _ => rfl
      generalize a'.eval = ev at e1 e88 ek ⊢
      simp [execOp, go_sem, e1] <;> first | omega | (intro hx9; exact absurd hx9 (by omega))
    | 77, _, hr =>
      have e91 : a'.eval (.tmp 91) = (.pointer (some ⟨g2, 0, none⟩)) := hJ.ex (j := 76) rfl hr (by kernel_rfl)
      have e88 : a'.eval (.tmp 88) = (.bool true) := hJ.ex (j := 73) rfl hr (by kernel_rfl)
      refine hJ.pure_ hT rfl rfl rfl ((wanted_of (k := 73) (b := true) rfl rfl rfl e88).trans (by decide)) (.pointer (some ⟨g2, 0, none⟩)) ?_ rfl
      have ek : ∀ v, a'.eval (.const v) = v := fun _ => rfl
      generalize a'.eval = ev at e91 e88 ek ⊢
      simp [execOp, go_sem, e91] <;> first | omega | (intro hx9; exact absurd hx9 (by omega))
    | 78, _, hr =>
      have e92 : a'.eval (.tmp 92) = (.pointer (some ⟨g2, 0, none⟩)) := hJ.ex (j := 77) rfl hr (by kernel_rfl)
      have e88 : a'.eval (.tmp 88) = (.bool true) := hJ.ex (j := 73) rfl hr (by kernel_rfl)
      refine hJ.pure_ hT rfl rfl rfl ((wanted_of (k := 73) (b := true) rfl rfl rfl e88).trans (by decide)) (.pointer (some ⟨g2, 29, none⟩)) ?_ rfl
      have ek : ∀ v, a'.eval (.const v) = v := fun _ => rfl
      generalize a'.eval = ev at e92 e88 ek ⊢
      simp [execOp, go_sem, e92] <;> first | omega | (intro hx9; exact absurd hx9 (by omega))
    | 79, _, hr =>
      have e93 : a'.eval (.tmp 93) = (.pointer (some ⟨g2, 29, none⟩)) := hJ.ex (j := 78) rfl hr (by kernel_rfl)
      have e88 : a'.eval (.tmp 88) = (.bool true) := hJ.ex (j := 73) rfl hr (by kernel_rfl)
      refine hJ.pure_ hT rfl rfl rfl ((wanted_of (k := 73) (b := true) rfl rfl rfl e88).trans (by decide)) (.pointer (some ⟨p2, 0, none⟩)) ?_ rfl
      have ek : ∀ v, a'.eval (.const v) = v := fun _ => rfl
      generalize a'.eval = ev at e93 e88 ek ⊢
      simp [execOp, go_sem, e93, u29] <;> first | omega | (intro hx9; exact absurd hx9 (by omega))
    | 80, _, hr =>
      have e90 : a'.eval (.tmp 90) = (.pointer (some ⟨p, 0, none⟩)) := hJ.ex (j := 75) rfl hr (by kernel_rfl)
      have e94 : a'.eval (.tmp 94) = (.pointer (some ⟨p2, 0, none⟩)) := hJ.ex (j := 79) rfl hr (by kernel_rfl)
      have e88 : a'.eval (.tmp 88) = (.bool true) := hJ.ex (j := 73) rfl hr (by kernel_rfl)
      refine hJ.call_ hT rfl rfl rfl ((wanted_of (k := 73) (b := true) rfl rfl rfl e88).trans (by decide)) 64 #[.pointer (some ⟨p, 0, none⟩), .pointer (some ⟨p2, 0, none⟩)] ?_ ?_
      · have hent := enters_of Try.func64 (by kernel_rfl) rfl #[.pointer (some ⟨p, 0, none⟩), .pointer (some ⟨p2, 0, none⟩)] w'
        have ek : ∀ v, a'.eval (.const v) = v := fun _ => rfl
        have ef : ∀ f, a'.eval (.func f) = .func (.func f) #[] #[] := fun _ => rfl
        clear hJ hr hT
        generalize a'.eval = ev at *
        simp [execOp, resolve, invoke, Deferred.ofValue, go_sem, hent, ef, e90, e94]
      · refine (sameRegs_any p r p2 c.regs _ (HR.out.grows hJ.grows) (S2.out.regs.grows hJ.grows)).mono ?_
        rintro e w5 ⟨rfl, hg⟩
        exact ⟨_, rfl, hg, rfl⟩
    | 81, _, hr =>
      have e88 : a'.eval (.tmp 88) = (.bool true) := hJ.ex (j := 73) rfl hr (by kernel_rfl)
      have e95 : a'.eval (.tmp 95) = (.bool true) := hJ.ex (j := 80) rfl hr (by kernel_rfl)
      refine hJ.pure_ hT rfl rfl rfl rfl (.bool true) ?_ rfl
      have ek : ∀ v, a'.eval (.const v) = v := fun _ => rfl
      generalize a'.eval = ev at e88 e95 ek ⊢
      simp [execOp, go_sem, ek, e88, e95] <;> first | omega | (intro hx9; exact absurd hx9 (by omega))
    | 82, _, hr =>
      have e96 : a'.eval (.tmp 96) = (.bool true) := hJ.ex (j := 81) rfl hr (by kernel_rfl)
      refine hJ.pure_ hT rfl rfl rfl rfl (.bool true) ?_ rfl
      have ek : ∀ v, a'.eval (.const v) = v := fun _ => rfl
      generalize a'.eval = ev at e96 ek ⊢
      simp [execOp, go_sem, e96] <;> first | omega | (intro hx9; exact absurd hx9 (by omega))
    | n + 83, hi, _ => exact absurd hi (by omega)
  case fin =>
    intro a' w' _ hdf hg hv ho
    have e4 : a'.eval (.tmp 4) = .bool true := hv 82 4 _ rfl
    have f4 : a'.tmps[4]?.getD undef = .bool true := by simpa [Act.eval] using e4
    clear hv ho e4
    go_wp2_with fail
    exact bodyPost_ret (v := .bool true) (by simp [results, Try.results35, go_sem, f4]) hdf ⟨rfl, G2.out.trans hg⟩
end Go.Proofs.Ythanghgfakibnaa
