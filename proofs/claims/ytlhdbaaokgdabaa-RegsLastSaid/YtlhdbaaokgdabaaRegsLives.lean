/-
  Registers: the walk of the chapter's own example.
-/
import Derived.Test.YtlhdbaaokgdabaaRegsSame
import Derived.Test.YtlhdbaaokgdabaaRegsPush
import Derived.Test.YtlhdbaaokgdabaaVals
namespace Go.Proofs.Ytlhdbaaokgdabaa
open Go.RowKit

set_option maxHeartbeats 400000 in
theorem text_any (b : Bool) (A : Option Addr) (n cap : Nat) (w : World) : Calls Try.prog 23 #[.bool b, .slice A n cap] w fun e w' => e = .returned (.agg #[.slice A n cap, .bool b]) ∧ Grows w w' := by
  go_enter Try.func23, Try.ntmps23
  go_wp2_with fail
  exact bodyPost_ret (v := .agg #[.slice A n cap, .bool b]) (by simp [results, Try.results23, go_sem]) rfl ⟨rfl, by repeat' first | exact Grows.refl _ | refine Grows.more ?_ _ | refine Grows.alloc ?_ _⟩
/-- A text in a block of its own. -/
structure BoxAt (ok : Nat → Prop) (r : Nat) (w : World) (b : Nat) (A : Option Addr) (cap : Nat) (x : Rg) : Prop where
  c0 : w.cell? ⟨b, 0, none⟩ = some (.slice A x.d.length cap)
  c1 : w.cell? ⟨b, 1, none⟩ = some (.bool x.whole)
  rd : LRd ok w A cap x.d
  lt : InHeap b w
  ne : ¬ b = r
theorem BoxAt.chg {ok : Nat → Prop} {r : Nat} {w w' : World} {b : Nat} {A : Option Addr} {cap : Nat} {x : Rg} (h : BoxAt ok r w b A cap x) (hc : Chg (fun b => b = r) w w') (ho : ∀ b, ok b → ¬ b = r) : BoxAt ok r w' b A cap x :=
  ⟨(hc.cell (a := ⟨b, 0, none⟩) h.lt h.ne).trans h.c0, (hc.cell (a := ⟨b, 1, none⟩) h.lt h.ne).trans h.c1, h.rd.chg hc fun b _ hb => ho b hb, Nat.lt_of_lt_of_le h.lt hc.size, h.ne⟩
theorem BoxAt.grows {ok : Nat → Prop} {r : Nat} {w w' : World} {b : Nat} {A : Option Addr} {cap : Nat} {x : Rg} (h : BoxAt ok r w b A cap x) (hg : Grows w w') : BoxAt ok r w' b A cap x :=
  ⟨((Chg.of_grows (p := fun _ => False) hg).cell (a := ⟨b, 0, none⟩) h.lt (fun h => h)).trans h.c0, ((Chg.of_grows (p := fun _ => False) hg).cell (a := ⟨b, 1, none⟩) h.lt (fun h => h)).trans h.c1, h.rd.grows hg, Nat.lt_of_lt_of_le h.lt hg.below.size, h.ne⟩
/-- Set, of a text that is written out. -/
theorem set_lit {ok okx : Nat → Prop} (p r : Nat) (S : RS) (c : Int) (k : Nat) (hk : c = k) (A : Option Addr) (n cap : Nat) (b : Bool) (x : Rg) (hn : n = x.d.length) (hb : b = x.whole) (w : World) (h : Regs ok w p r S) (hx : LRd okx w A cap x.d) (hf : x.fits) (hok : ∀ b, w.heap.size ≤ b → ok b) (hnr : ¬ ok r) :
    Calls Try.prog 11 #[.pointer (some ⟨p, 0, none⟩), .int .u8 c, .agg #[.slice A n cap, .bool b]] w (PutOut ok p r (rset S c x) w) := by
  subst hk hn hb
  exact set_any p r S k A cap x w h hx hf hok hnr
theorem push_lit {ok okx : Nat → Prop} (p r : Nat) (S : RS) (A : Option Addr) (n cap : Nat) (b : Bool) (x : Rg) (hn : n = x.d.length) (hb : b = x.whole) (w : World) (h : Regs ok w p r S) (hx : LRd okx w A cap x.d) (hf : x.fits) (hok : ∀ b, w.heap.size ≤ b → ok b) (hnr : ¬ ok r) (hxr : ∀ b, okx b → ¬ b = r) :
    Calls Try.prog 13 #[.pointer (some ⟨p, 0, none⟩), .agg #[.slice A n cap, .bool b]] w (PutOut ok p r (rpush S x) w) := by
  subst hn hb
  exact push_any p r S A cap x w h hx hf hok hnr hxr
theorem get_lit {ok : Nat → Prop} (p r : Nat) (S : RS) (c : Int) (k : Nat) (hk : c = k) (w : World) (h : Regs ok w p r S) (y : Rg) (e : Int) (hy : rget S c = (y, e)) : Calls Try.prog 21 #[.pointer (some ⟨p, 0, none⟩), .int .u8 c] w (GetOut (y, e) w) := by
  subst hk
  rw [← hy]
  exact get_any p r S k w h
theorem regs_new (w : World) (ok : Nat → Prop) : Regs ok ((w.alloc (.map #[] 0)).alloc (.cells #[.map (some w.heap.size)] 53)) (w.heap.size + 1) w.heap.size rs0 := by
  refine ⟨by simp [go_sem], ⟨fun _ => none, ⟨#[], 0, ?_, by intro e h; simp at h, Go.MapKept.stamped_empty 0, fun k => rfl⟩, fun k => trivial⟩, rgood0, by omega, by simp⟩
  rw [Below.heap_alloc _ _ _ (by simp)]
  exact heap_alloc_new _ _
def X1 : Rg := ⟨[[111, 110, 101]], true⟩
def X2 : Rg := ⟨[[116, 119, 111]], true⟩
def X12 : Rg := ⟨[[111, 110, 101], [116, 119, 111]], true⟩
def X3 : Rg := ⟨[[120]], false⟩
def X4 : Rg := ⟨[[121], [122]], false⟩
def X34 : Rg := ⟨[[120, 121], [122]], false⟩
def X5 : Rg := ⟨[[112]], true⟩
def X6 : Rg := ⟨[[113]], true⟩
def s1 : RS := (rset rs0 97 X1).1
def s2 : RS := (rset s1 65 X2).1
def s3 : RS := (rset s2 98 X3).1
def s4 : RS := (rset s3 66 X4).1
def s5 : RS := (rpush s4 X5).1
def s6 : RS := (rpush s5 X6).1
theorem r1 : rset rs0 97 X1 = (s1, 0) := rfl
theorem r2 : rset s1 65 X2 = (s2, 0) := rfl
theorem r3 : rset s2 98 X3 = (s3, 0) := rfl
theorem r4 : rset s3 66 X4 = (s4, 0) := rfl
theorem r5 : rpush s4 X5 = (s5, 0) := rfl
theorem r6 : rpush s5 X6 = (s6, 0) := rfl
theorem g1 : rget s2 97 = (X12, 0) := rfl
theorem g2 : rget s2 0 = (X2, 0) := rfl
theorem g3 : rget s4 98 = (X34, 0) := rfl
theorem g4 : rget s6 49 = (X6, 0) := rfl
theorem g5 : rget s6 50 = (X5, 0) := rfl
theorem g6 : rget s6 51 = (rg0, 170) := rfl
theorem text_new (r : Nat) (d : List (List UInt8)) {w : World} {b : Bool} {cs : Array Value} {t : TypeId} {n g : Nat} (hcs : cs.toList = lv d) (hd : d.length ≤ 1000) (hn : n = d.length) (hg : g = w.heap.size) (hr : r < w.heap.size) :
    Calls Try.prog 23 #[.bool b, .slice (some ⟨g, 0, none⟩) n n] (w.alloc (.cells cs t)) fun e w' => e = .returned (.agg #[.slice (some ⟨g, 0, none⟩) n n, .bool b]) ∧ Grows (w.alloc (.cells cs t)) w' ∧ LRd (fun b => ¬ b = r) w' (some ⟨g, 0, none⟩) n d := by
  subst hn hg
  refine (text_any _ _ _ _ _).mono ?_
  rintro e w' ⟨rfl, hg⟩
  have hsz : cs.size = d.length := by rw [← Array.length_toList, hcs, lv_length]
  have : LRd (fun b => ¬ b = r) (w.alloc (.cells cs t)) (some ⟨w.heap.size, 0, none⟩) d.length d := ⟨hcs ▸ rd_new w cs t d.length _ hsz rfl, (fun h => by cases h), Nat.le_refl _, by omega, fun _ a e => by cases e; intro e; simp at e; omega⟩
  exact ⟨rfl, hg, this.grows hg⟩
theorem fitsX1 : (X1).fits := ⟨by decide, by decide⟩
theorem fitsX2 : (X2).fits := ⟨by decide, by decide⟩
theorem fitsX12 : (X12).fits := ⟨by decide, by decide⟩
theorem fitsX3 : (X3).fits := ⟨by decide, by decide⟩
theorem fitsX4 : (X4).fits := ⟨by decide, by decide⟩
theorem fitsX34 : (X34).fits := ⟨by decide, by decide⟩
theorem fitsX5 : (X5).fits := ⟨by decide, by decide⟩
theorem fitsX6 : (X6).fits := ⟨by decide, by decide⟩
theorem cX1 : (#[.string { data := #[111, 110, 101] }] : Array Value).toList = lv X1.d := rfl
theorem nX1 : 1 = X1.d.length := rfl
theorem bX1 : true = X1.whole := rfl
theorem lX1 : X1.d.length ≤ 1000 := by decide
theorem cX2 : (#[.string { data := #[116, 119, 111] }] : Array Value).toList = lv X2.d := rfl
theorem nX2 : 1 = X2.d.length := rfl
theorem bX2 : true = X2.whole := rfl
theorem lX2 : X2.d.length ≤ 1000 := by decide
theorem cX12 : (#[.string { data := #[111, 110, 101] }, .string { data := #[116, 119, 111] }] : Array Value).toList = lv X12.d := rfl
theorem nX12 : 2 = X12.d.length := rfl
theorem bX12 : true = X12.whole := rfl
theorem lX12 : X12.d.length ≤ 1000 := by decide
theorem cX3 : (#[.string { data := #[120] }] : Array Value).toList = lv X3.d := rfl
theorem nX3 : 1 = X3.d.length := rfl
theorem bX3 : false = X3.whole := rfl
theorem lX3 : X3.d.length ≤ 1000 := by decide
theorem cX4 : (#[.string { data := #[121] }, .string { data := #[122] }] : Array Value).toList = lv X4.d := rfl
theorem nX4 : 2 = X4.d.length := rfl
theorem bX4 : false = X4.whole := rfl
theorem lX4 : X4.d.length ≤ 1000 := by decide
theorem cX34 : (#[.string { data := #[120, 121] }, .string { data := #[122] }] : Array Value).toList = lv X34.d := rfl
theorem nX34 : 2 = X34.d.length := rfl
theorem bX34 : false = X34.whole := rfl
theorem lX34 : X34.d.length ≤ 1000 := by decide
theorem cX5 : (#[.string { data := #[112] }] : Array Value).toList = lv X5.d := rfl
theorem nX5 : 1 = X5.d.length := rfl
theorem bX5 : true = X5.whole := rfl
theorem lX5 : X5.d.length ≤ 1000 := by decide
theorem cX6 : (#[.string { data := #[113] }] : Array Value).toList = lv X6.d := rfl
theorem nX6 : 1 = X6.d.length := rfl
theorem bX6 : true = X6.whole := rfl
theorem lX6 : X6.d.length ≤ 1000 := by decide
theorem VJ.arr {P : Program} {w0 : World} {a0 : Act} {T : List (Nat × Spec)} {done : Array Bool} {a : Act} {w : World} {ops : Array Oper} {Q : Exit → Act → World → Prop} {i d : Nat} {S : Spec} {o : Oper}
    (hJ : VJ w0 a0 T done a w) (hT : Tab a0 T) (hi : T[i]? = some (d, S)) (ho : ops[i]? = some o) (hd : o.dst = some d) (hw : Region.wanted o (yielded ops a.tmps) = true) (cs : Array Value) (n : Nat) (t : TypeId)
    (hrun : (execOp a.eval o).run P w = .ok (.value (.slice (some ⟨w.heap.size, 0, none⟩) n n)) (w.alloc (.cells cs t))) (hS : S (w.alloc (.cells cs t)) (.slice (some ⟨w.heap.size, 0, none⟩) n n)) : wpOp P ops Q i (VJ w0 a0 T (done.setIfInBounds i true)) a w := by
  refine hJ.step hT hi ho hd hw ?_
  unfold Oper.wp
  rw [hrun, Oper.upon_value, hd]
  exact ⟨_, rfl, (Grows.refl _).alloc _, hS⟩
/-- Lines that were laid in a block of their own. -/
def SliceOf (r : Nat) (d : List (List UInt8)) : Spec := fun w v => ∃ g, v = .slice (some ⟨g, 0, none⟩) d.length d.length ∧ LRd (fun b => ¬ b = r) w (some ⟨g, 0, none⟩) d.length d
def RegOf (r : Nat) (x : Rg) : Spec := fun w v => ∃ g, v = .agg #[.slice (some ⟨g, 0, none⟩) x.d.length x.d.length, .bool x.whole] ∧ LRd (fun b => ¬ b = r) w (some ⟨g, 0, none⟩) x.d.length x.d
theorem SliceOf.stays (r : Nat) (d : List (List UInt8)) : Stays (SliceOf r d) := fun _ _ _ hg ⟨g, e, h⟩ => ⟨g, e, h.grows hg⟩
theorem RegOf.stays (r : Nat) (x : Rg) : Stays (RegOf r x) := fun _ _ _ hg ⟨g, e, h⟩ => ⟨g, e, h.grows hg⟩
theorem lrd_at (r : Nat) (d : List (List UInt8)) {w : World} {cs : Array Value} {t : TypeId} {n : Nat} (hcs : cs.toList = lv d) (hd : d.length ≤ 1000) (hn : n = d.length) (hr : r < w.heap.size) : LRd (fun b => ¬ b = r) (w.alloc (.cells cs t)) (some ⟨w.heap.size, 0, none⟩) d.length d := by
  have hsz : cs.size = d.length := by rw [← Array.length_toList, hcs, lv_length]
  exact ⟨hcs ▸ rd_new w cs t d.length _ hsz rfl, (fun h => by cases h), Nat.le_refl _, by omega, fun _ a e => by cases e; intro e; simp at e; omega⟩
theorem entText : Enters Try.prog 23 := enters_of Try.func23 (by kernel_rfl) rfl
theorem entSame : Enters Try.prog 16 := enters_of Try.func16 (by kernel_rfl) rfl
theorem same_lit {ok ok2 : Nat → Prop} (a : Rg) (A B : Option Addr) (na nb ca cb : Nat) (ba bb : Bool) (w : World) (ha : LRd ok w A ca a.d) (hb : LRd ok2 w B cb a.d) (h1 : na = a.d.length) (h2 : nb = a.d.length) (h3 : ba = a.whole) (h4 : bb = a.whole) (hl : a.d.length ≤ 1000) : Calls Try.prog 16 #[.agg #[.slice A na ca, .bool ba], .agg #[.slice B nb cb, .bool bb]] w fun e w1 => e = .returned (.bool true) ∧ Grows w w1 := by
  subst h1 h2 h3 h4
  have := sameReg_any A B ca cb a a w ha hb (by omega) (by omega)
  rwa [rsame_self] at this
theorem okn {r n : Nat} (h : r < n) : ∀ b, n ≤ b → (fun b => ¬ b = r) b := fun b hb e => by omega
theorem nnr (r : Nat) : ¬ (fun b => ¬ b = r) r := fun h => h rfl
theorem idr (r : Nat) : ∀ b, (fun b => ¬ b = r) b → ¬ b = r := fun _ h => h
set_option maxHeartbeats 4000000 in
theorem lives_any (w : World) : Calls Try.prog 9 #[] w fun e w' => e = .returned (.bool true) ∧ Grows w w' := by
  go_enter Try.func9, Try.ntmps9
  go_wp2_with fail
  (with_reducible refine (new_any _).mono ?_)
  rintro e w1 ⟨rfl, hw1⟩
  have hR1 : Hid (Regs (fun b => ¬ b = w.heap.size) w1 (w.heap.size + 1) w.heap.size rs0) := Lib.hid (hw1 ▸ regs_new w _)
  have hG1 : Hid (Grows w w1) := Lib.hid (by rw [hw1]; exact ((Grows.refl _).alloc _).alloc _)
  have hs1 : w.heap.size < w1.heap.size := hR1.out.map.lt
  obtain ⟨p, hp⟩ : ∃ p, w.heap.size + 1 = p := ⟨_, rfl⟩
  obtain ⟨r, hr⟩ : ∃ r, w.heap.size = r := ⟨_, rfl⟩
  have hr0 := Lib.hid hr
  rw [hp, hr] at hR1
  rw [hr] at hs1
  rw [hp]
  clear hw1 hp hr
  have hC1 : Hid (Chg (fun b => b = r) w1 w1) := Lib.hid (Chg.refl _ _)
  have hnr : Hid True := Lib.hid trivial
  go_wp2_with fail
  with_reducible refine Calls.mono (text_new r X1.d cX1 lX1 nX1 ?_ ?_) ?_
  · first | rfl | simp
  · first | omega | (simp; omega)
  rintro e wa ⟨rfl, ⟨m2a, rfl⟩, hT⟩
  have hT := Lib.hid hT
  go_wp2_with fail
  (with_reducible refine (set_lit (ok := fun b => ¬ b = r) (okx := fun b => ¬ b = r) p r rs0 97 97 rfl _ _ _ _ X1 nX1 bX1 _ (hR1.out.grows (by repeat' first | exact Grows.refl _ | refine Grows.more ?_ _ | refine Grows.alloc ?_ _ | refine Grows.drew ?_)) hT.out fitsX1 (okn (by first | omega | (simp; omega))) (nnr r)).mono ?_)
  rw [r1]
  rintro e w2 ⟨rfl, hc2, hR2⟩
  have hs2 : r < w2.heap.size := hR2.map.lt
  have hR2 := Lib.hid hR2
  have hC2 : Hid (Chg (fun b => b = r) w1 w2) := Lib.hid ((hC1.out.trans (Chg.of_grows (by repeat' first | exact Grows.refl _ | refine Grows.more ?_ _ | refine Grows.alloc ?_ _ | refine Grows.drew ?_))).trans hc2)
  clear hc2 hC1 hR1 hs1 hT
  go_wp2_with fail
  with_reducible refine Calls.mono (text_new r X2.d cX2 lX2 nX2 ?_ ?_) ?_
  · first | rfl | simp
  · first | omega | (simp; omega)
  rintro e wa ⟨rfl, ⟨m3a, rfl⟩, hT⟩
  have hT := Lib.hid hT
  go_wp2_with fail
  (with_reducible refine (set_lit (ok := fun b => ¬ b = r) (okx := fun b => ¬ b = r) p r s1 65 65 rfl _ _ _ _ X2 nX2 bX2 _ (hR2.out.grows (by repeat' first | exact Grows.refl _ | refine Grows.more ?_ _ | refine Grows.alloc ?_ _ | refine Grows.drew ?_)) hT.out fitsX2 (okn (by first | omega | (simp; omega))) (nnr r)).mono ?_)
  rw [r2]
  rintro e w3 ⟨rfl, hc3, hR3⟩
  have hs3 : r < w3.heap.size := hR3.map.lt
  have hR3 := Lib.hid hR3
  have hC3 : Hid (Chg (fun b => b = r) w1 w3) := Lib.hid ((hC2.out.trans (Chg.of_grows (by repeat' first | exact Grows.refl _ | refine Grows.more ?_ _ | refine Grows.alloc ?_ _ | refine Grows.drew ?_))).trans hc3)
  clear hc3 hC2 hR2 hs2 hT
  go_wp2_with fail
  (with_reducible refine (get_lit p r s2 97 97 rfl _ (hR3.out.grows (by repeat' first | exact Grows.refl _ | refine Grows.more ?_ _ | refine Grows.alloc ?_ _ | refine Grows.drew ?_)) _ _ g1).mono ?_)
  rintro e wg ⟨A4, c4, rfl, hL4, m4, rfl⟩
  have hL4 := Lib.hid hL4
  go_wp2_with fail
  (with_reducible refine (get_lit p r s2 0 0 rfl _ (hR3.out.grows (by repeat' first | exact Grows.refl _ | refine Grows.more ?_ _ | refine Grows.alloc ?_ _ | refine Grows.drew ?_)) _ _ g2).mono ?_)
  rintro e wg ⟨A6, c6, rfl, hL6, m6, rfl⟩
  have hL6 := Lib.hid hL6
  go_wp2_with fail
  with_reducible refine Calls.mono (text_new r X3.d cX3 lX3 nX3 ?_ ?_) ?_
  · first | rfl | simp
  · first | omega | (simp; omega)
  rintro e wa ⟨rfl, ⟨m4a, rfl⟩, hT⟩
  have hT := Lib.hid hT
  go_wp2_with fail
  (with_reducible refine (set_lit (ok := fun b => ¬ b = r) (okx := fun b => ¬ b = r) p r s2 98 98 rfl _ _ _ _ X3 nX3 bX3 _ (hR3.out.grows (by repeat' first | exact Grows.refl _ | refine Grows.more ?_ _ | refine Grows.alloc ?_ _ | refine Grows.drew ?_)) hT.out fitsX3 (okn (by first | omega | (simp; omega))) (nnr r)).mono ?_)
  rw [r3]
  rintro e w4 ⟨rfl, hc4, hR4⟩
  have hs4 : r < w4.heap.size := hR4.map.lt
  have hR4 := Lib.hid hR4
  have hC4 : Hid (Chg (fun b => b = r) w1 w4) := Lib.hid ((hC3.out.trans (Chg.of_grows (by repeat' first | exact Grows.refl _ | refine Grows.more ?_ _ | refine Grows.alloc ?_ _ | refine Grows.drew ?_))).trans hc4)
  have HC4 := hc4
  have B4 : Hid (BoxAt (fun b => ¬ b = r) r w4 (w3.heap.size + m4.bs.size) A4 c4 X12) := Lib.hid (BoxAt.chg ⟨by simp [go_sem], by simp [go_sem], (hL4.out.mono (fun b _ hb => by first | omega | (simp at hb; omega))).grows (by repeat' first | exact Grows.refl _ | refine Grows.more ?_ _ | refine Grows.alloc ?_ _ | refine Grows.drew ?_), by simp [go_sem], by omega⟩ HC4 (fun _ h => h))
  have B6 : Hid (BoxAt (fun b => ¬ b = r) r w4 (w3.heap.size + m4.bs.size + 1 + m6.bs.size) A6 c6 X2) := Lib.hid (BoxAt.chg ⟨by simp [go_sem], by simp [go_sem], (hL6.out.mono (fun b _ hb => by first | omega | (simp at hb; omega))).grows (by repeat' first | exact Grows.refl _ | refine Grows.more ?_ _ | refine Grows.alloc ?_ _ | refine Grows.drew ?_), by simp [go_sem], by omega⟩ HC4 (fun _ h => h))
  clear HC4
  clear hc4 hC3 hR3 hs3 hT
  go_wp2_with fail
  with_reducible refine Calls.mono (text_new r X4.d cX4 lX4 nX4 ?_ ?_) ?_
  · first | rfl | simp
  · first | omega | (simp; omega)
  rintro e wa ⟨rfl, ⟨m5a, rfl⟩, hT⟩
  have hT := Lib.hid hT
  go_wp2_with fail
  (with_reducible refine (set_lit (ok := fun b => ¬ b = r) (okx := fun b => ¬ b = r) p r s3 66 66 rfl _ _ _ _ X4 nX4 bX4 _ (hR4.out.grows (by repeat' first | exact Grows.refl _ | refine Grows.more ?_ _ | refine Grows.alloc ?_ _ | refine Grows.drew ?_)) hT.out fitsX4 (okn (by first | omega | (simp; omega))) (nnr r)).mono ?_)
  rw [r4]
  rintro e w5 ⟨rfl, hc5, hR5⟩
  have hs5 : r < w5.heap.size := hR5.map.lt
  have hR5 := Lib.hid hR5
  have hC5 : Hid (Chg (fun b => b = r) w1 w5) := Lib.hid ((hC4.out.trans (Chg.of_grows (by repeat' first | exact Grows.refl _ | refine Grows.more ?_ _ | refine Grows.alloc ?_ _ | refine Grows.drew ?_))).trans hc5)
  have B4 := Lib.hid ((B4.out.grows (by repeat' first | exact Grows.refl _ | refine Grows.more ?_ _ | refine Grows.alloc ?_ _ | refine Grows.drew ?_)).chg hc5 (fun _ h => h))
  have B6 := Lib.hid ((B6.out.grows (by repeat' first | exact Grows.refl _ | refine Grows.more ?_ _ | refine Grows.alloc ?_ _ | refine Grows.drew ?_)).chg hc5 (fun _ h => h))
  have HC5 := hc5
  clear HC5
  clear hc5 hC4 hR4 hs4 hT
  go_wp2_with fail
  (with_reducible refine (get_lit p r s4 98 98 rfl _ (hR5.out.grows (by repeat' first | exact Grows.refl _ | refine Grows.more ?_ _ | refine Grows.alloc ?_ _ | refine Grows.drew ?_)) _ _ g3).mono ?_)
  rintro e wg ⟨A10, c10, rfl, hL10, m10, rfl⟩
  have hL10 := Lib.hid hL10
  go_wp2_with fail
  with_reducible refine Calls.mono (text_new r X5.d cX5 lX5 nX5 ?_ ?_) ?_
  · first | rfl | simp
  · first | omega | (simp; omega)
  rintro e wa ⟨rfl, ⟨m6a, rfl⟩, hT⟩
  have hT := Lib.hid hT
  go_wp2_with fail
  (with_reducible refine (push_lit (ok := fun b => ¬ b = r) (okx := fun b => ¬ b = r) p r s4 _ _ _ _ X5 nX5 bX5 _ (hR5.out.grows (by repeat' first | exact Grows.refl _ | refine Grows.more ?_ _ | refine Grows.alloc ?_ _ | refine Grows.drew ?_)) hT.out fitsX5 (okn (by first | omega | (simp; omega))) (nnr r) (idr r)).mono ?_)
  rw [r5]
  rintro e w6 ⟨rfl, hc6, hR6⟩
  have hs6 : r < w6.heap.size := hR6.map.lt
  have hR6 := Lib.hid hR6
  have hC6 : Hid (Chg (fun b => b = r) w1 w6) := Lib.hid ((hC5.out.trans (Chg.of_grows (by repeat' first | exact Grows.refl _ | refine Grows.more ?_ _ | refine Grows.alloc ?_ _ | refine Grows.drew ?_))).trans hc6)
  have B4 := Lib.hid ((B4.out.grows (by repeat' first | exact Grows.refl _ | refine Grows.more ?_ _ | refine Grows.alloc ?_ _ | refine Grows.drew ?_)).chg hc6 (fun _ h => h))
  have B6 := Lib.hid ((B6.out.grows (by repeat' first | exact Grows.refl _ | refine Grows.more ?_ _ | refine Grows.alloc ?_ _ | refine Grows.drew ?_)).chg hc6 (fun _ h => h))
  have HC6 := hc6
  have B10 : Hid (BoxAt (fun b => ¬ b = r) r w6 (w5.heap.size + m10.bs.size) A10 c10 X34) := Lib.hid (BoxAt.chg ⟨by simp [go_sem], by simp [go_sem], (hL10.out.mono (fun b _ hb => by first | omega | (simp at hb; omega))).grows (by repeat' first | exact Grows.refl _ | refine Grows.more ?_ _ | refine Grows.alloc ?_ _ | refine Grows.drew ?_), by simp [go_sem], by omega⟩ HC6 (fun _ h => h))
  clear HC6
  clear hc6 hC5 hR5 hs5 hT
  go_wp2_with fail
  with_reducible refine Calls.mono (text_new r X6.d cX6 lX6 nX6 ?_ ?_) ?_
  · first | rfl | simp
  · first | omega | (simp; omega)
  rintro e wa ⟨rfl, ⟨m7a, rfl⟩, hT⟩
  have hT := Lib.hid hT
  go_wp2_with fail
  (with_reducible refine (push_lit (ok := fun b => ¬ b = r) (okx := fun b => ¬ b = r) p r s5 _ _ _ _ X6 nX6 bX6 _ (hR6.out.grows (by repeat' first | exact Grows.refl _ | refine Grows.more ?_ _ | refine Grows.alloc ?_ _ | refine Grows.drew ?_)) hT.out fitsX6 (okn (by first | omega | (simp; omega))) (nnr r) (idr r)).mono ?_)
  rw [r6]
  rintro e w7 ⟨rfl, hc7, hR7⟩
  have hs7 : r < w7.heap.size := hR7.map.lt
  have hR7 := Lib.hid hR7
  have hC7 : Hid (Chg (fun b => b = r) w1 w7) := Lib.hid ((hC6.out.trans (Chg.of_grows (by repeat' first | exact Grows.refl _ | refine Grows.more ?_ _ | refine Grows.alloc ?_ _ | refine Grows.drew ?_))).trans hc7)
  have B4 := Lib.hid ((B4.out.grows (by repeat' first | exact Grows.refl _ | refine Grows.more ?_ _ | refine Grows.alloc ?_ _ | refine Grows.drew ?_)).chg hc7 (fun _ h => h))
  have B6 := Lib.hid ((B6.out.grows (by repeat' first | exact Grows.refl _ | refine Grows.more ?_ _ | refine Grows.alloc ?_ _ | refine Grows.drew ?_)).chg hc7 (fun _ h => h))
  have B10 := Lib.hid ((B10.out.grows (by repeat' first | exact Grows.refl _ | refine Grows.more ?_ _ | refine Grows.alloc ?_ _ | refine Grows.drew ?_)).chg hc7 (fun _ h => h))
  have HC7 := hc7
  clear HC7
  clear hc7 hC6 hR6 hs6 hT
  go_wp2_with fail
  have k40 := B4.out.c0
  have k41 := B4.out.c1
  have i4 := B4.out.lt
  have k60 := B6.out.c0
  have k61 := B6.out.c1
  have i6 := B6.out.lt
  have k10 := B10.out.c0
  have k11 := B10.out.c1
  have i10 := B10.out.lt
  (with_reducible refine (get_lit p r s6 49 49 rfl _ (hR7.out.grows (by repeat' first | exact Grows.refl _ | refine Grows.more ?_ _ | refine Grows.alloc ?_ _ | refine Grows.drew ?_)) _ _ g4).mono ?_)
  rintro e wg ⟨A14, c14, rfl, hL14, m14, rfl⟩
  have hL14 := Lib.hid hL14
  go_wp2_with fail
  (with_reducible refine (get_lit p r s6 50 50 rfl _ (hR7.out.grows (by repeat' first | exact Grows.refl _ | refine Grows.more ?_ _ | refine Grows.alloc ?_ _ | refine Grows.drew ?_)) _ _ g5).mono ?_)
  rintro e wg ⟨A16, c16, rfl, hL16, m16, rfl⟩
  have hL16 := Lib.hid hL16
  go_wp2_with fail
  (with_reducible refine (get_lit p r s6 51 51 rfl _ (hR7.out.grows (by repeat' first | exact Grows.refl _ | refine Grows.more ?_ _ | refine Grows.alloc ?_ _ | refine Grows.drew ?_)) _ _ g6).mono ?_)
  rintro e wg ⟨A18, c18, rfl, hL18, m18, rfl⟩
  clear hL18
  go_wp2_with fail
  obtain ⟨WE, hWE⟩ : ∃ W, W = ((more ((more ((more w7 m14).alloc (.cells #[.slice A14 X6.d.length c14, .bool X6.whole] 25)) m16).alloc (.cells #[.slice A16 X5.d.length c16, .bool X5.whole] 25)) m18).alloc (.cells #[.slice A18 rg0.d.length c18, .bool rg0.whole] 25)) := ⟨_, rfl⟩
  have HB4 : Hid (BoxAt (fun b => ¬ b = r) r WE (w3.heap.size + m4.bs.size) A4 c4 X12) := Lib.hid (by rw [hWE]; exact B4.out.grows (by repeat' first | exact Grows.refl _ | refine Grows.more ?_ _ | refine Grows.alloc ?_ _ | refine Grows.drew ?_))
  have HB6 : Hid (BoxAt (fun b => ¬ b = r) r WE (w3.heap.size + m4.bs.size + 1 + m6.bs.size) A6 c6 X2) := Lib.hid (by rw [hWE]; exact B6.out.grows (by repeat' first | exact Grows.refl _ | refine Grows.more ?_ _ | refine Grows.alloc ?_ _ | refine Grows.drew ?_))
  have HB10 : Hid (BoxAt (fun b => ¬ b = r) r WE (w5.heap.size + m10.bs.size) A10 c10 X34) := Lib.hid (by rw [hWE]; exact B10.out.grows (by repeat' first | exact Grows.refl _ | refine Grows.more ?_ _ | refine Grows.alloc ?_ _ | refine Grows.drew ?_))
  have HB14 : Hid (BoxAt (fun b => ¬ b = r) r WE (w7.heap.size + m14.bs.size) A14 c14 X6) := Lib.hid (by rw [hWE]; exact ⟨by simp [go_sem], by simp [go_sem], (hL14.out.mono (fun b _ hb => by first | omega | (simp at hb; omega))).grows (by repeat' first | exact Grows.refl _ | refine Grows.more ?_ _ | refine Grows.alloc ?_ _ | refine Grows.drew ?_), by simp [go_sem], by omega⟩)
  have HB16 : Hid (BoxAt (fun b => ¬ b = r) r WE (w7.heap.size + m14.bs.size + 1 + m16.bs.size) A16 c16 X5) := Lib.hid (by rw [hWE]; exact ⟨by simp [go_sem], by simp [go_sem], (hL16.out.mono (fun b _ hb => by first | omega | (simp at hb; omega))).grows (by repeat' first | exact Grows.refl _ | refine Grows.more ?_ _ | refine Grows.alloc ?_ _ | refine Grows.drew ?_), by simp [go_sem], by omega⟩)
  have hrE : r < WE.heap.size := by rw [hWE]; simp; omega
  have HGE : Hid (Grows w WE) := Lib.hid (by rw [hWE]; exact Chg.grows (n := 0) hG1.out (hC7.out.trans (Chg.of_grows (by repeat' first | exact Grows.refl _ | refine Grows.more ?_ _ | refine Grows.alloc ?_ _ | refine Grows.drew ?_))) (fun b hb => by rw [hb, hr0.out]; exact Nat.le_refl _))
  rw [← hWE]
  clear hWE
  refine region_vals [(75, Ex (.int .i64 0)), (76, Ex (.bool true)), (77, Ex (.bool true)), (78, Ex (.int .i64 0)), (79, Ex (.bool true)), (80, Ex (.bool true)), (81, Ex (.bool true)), (82, Ex (.int .i64 0)), (83, Ex (.bool true)), (84, Ex (.bool true)), (85, Ex (.bool true)), (86, Ex (.agg #[.slice A4 X12.d.length c4, .bool X12.whole])), (87, SliceOf r X12.d), (88, RegOf r X12), (89, Ex (.bool true)), (90, Ex (.bool true)), (91, Ex (.bool true)), (92, Ex (.int .i64 0)), (93, Ex (.bool true)), (94, Ex (.bool true)), (95, Ex (.bool true)), (96, Ex (.agg #[.slice A6 X2.d.length c6, .bool X2.whole])), (97, SliceOf r X2.d), (98, RegOf r X2), (99, Ex (.bool true)), (100, Ex (.bool true)), (101, Ex (.bool true)), (102, Ex (.int .i64 0)), (103, Ex (.bool true)), (104, Ex (.bool true)), (105, Ex (.bool true)), (106, Ex (.int .i64 0)), (107, Ex (.bool true)), (108, Ex (.bool true)), (109, Ex (.bool true)), (110, Ex (.int .i64 0)), (111, Ex (.bool true)), (112, Ex (.bool true)), (113, Ex (.bool true)), (114, Ex (.agg #[.slice A10 X34.d.length c10, .bool X34.whole])), (115, SliceOf r X34.d), (116, RegOf r X34), (117, Ex (.bool true)), (118, Ex (.bool true)), (119, Ex (.bool true)), (120, Ex (.int .i64 0)), (121, Ex (.bool true)), (122, Ex (.bool true)), (123, Ex (.bool true)), (124, Ex (.int .i64 0)), (125, Ex (.bool true)), (126, Ex (.bool true)), (127, Ex (.bool true)), (128, Ex (.int .i64 0)), (129, Ex (.bool true)), (130, Ex (.bool true)), (131, Ex (.bool true)), (132, Ex (.agg #[.slice A14 X6.d.length c14, .bool X6.whole])), (133, SliceOf r X6.d), (134, RegOf r X6), (135, Ex (.bool true)), (136, Ex (.bool true)), (137, Ex (.bool true)), (138, Ex (.int .i64 0)), (139, Ex (.bool true)), (140, Ex (.bool true)), (141, Ex (.bool true)), (142, Ex (.agg #[.slice A16 X5.d.length c16, .bool X5.whole])), (143, SliceOf r X5.d), (144, RegOf r X5), (145, Ex (.bool true)), (146, Ex (.bool true)), (147, Ex (.bool true)), (148, Ex (.int .i64 170)), (149, Ex (.bool true)), (150, Ex (.bool true)), (0, Ex (.bool true))] (by kernel_rfl) (by kernel_rfl) rfl ?tab ?step ?fin
  case tab => exact tab_of 151 [75, 76, 77, 78, 79, 80, 81, 82, 83, 84, 85, 86, 87, 88, 89, 90, 91, 92, 93, 94, 95, 96, 97, 98, 99, 100, 101, 102, 103, 104, 105, 106, 107, 108, 109, 110, 111, 112, 113, 114, 115, 116, 117, 118, 119, 120, 121, 122, 123, 124, 125, 126, 127, 128, 129, 130, 131, 132, 133, 134, 135, 136, 137, 138, 139, 140, 141, 142, 143, 144, 145, 146, 147, 148, 149, 150, 0] rfl rfl (by decide) (by decide) (stays_cons (Ex.stays _) <| stays_cons (Ex.stays _) <| stays_cons (Ex.stays _) <| stays_cons (Ex.stays _) <| stays_cons (Ex.stays _) <| stays_cons (Ex.stays _) <| stays_cons (Ex.stays _) <| stays_cons (Ex.stays _) <| stays_cons (Ex.stays _) <| stays_cons (Ex.stays _) <| stays_cons (Ex.stays _) <| stays_cons (Ex.stays _) <| stays_cons (SliceOf.stays r X12.d) <| stays_cons (RegOf.stays r X12) <| stays_cons (Ex.stays _) <| stays_cons (Ex.stays _) <| stays_cons (Ex.stays _) <| stays_cons (Ex.stays _) <| stays_cons (Ex.stays _) <| stays_cons (Ex.stays _) <| stays_cons (Ex.stays _) <| stays_cons (Ex.stays _) <| stays_cons (SliceOf.stays r X2.d) <| stays_cons (RegOf.stays r X2) <| stays_cons (Ex.stays _) <| stays_cons (Ex.stays _) <| stays_cons (Ex.stays _) <| stays_cons (Ex.stays _) <| stays_cons (Ex.stays _) <| stays_cons (Ex.stays _) <| stays_cons (Ex.stays _) <| stays_cons (Ex.stays _) <| stays_cons (Ex.stays _) <| stays_cons (Ex.stays _) <| stays_cons (Ex.stays _) <| stays_cons (Ex.stays _) <| stays_cons (Ex.stays _) <| stays_cons (Ex.stays _) <| stays_cons (Ex.stays _) <| stays_cons (Ex.stays _) <| stays_cons (SliceOf.stays r X34.d) <| stays_cons (RegOf.stays r X34) <| stays_cons (Ex.stays _) <| stays_cons (Ex.stays _) <| stays_cons (Ex.stays _) <| stays_cons (Ex.stays _) <| stays_cons (Ex.stays _) <| stays_cons (Ex.stays _) <| stays_cons (Ex.stays _) <| stays_cons (Ex.stays _) <| stays_cons (Ex.stays _) <| stays_cons (Ex.stays _) <| stays_cons (Ex.stays _) <| stays_cons (Ex.stays _) <| stays_cons (Ex.stays _) <| stays_cons (Ex.stays _) <| stays_cons (Ex.stays _) <| stays_cons (Ex.stays _) <| stays_cons (SliceOf.stays r X6.d) <| stays_cons (RegOf.stays r X6) <| stays_cons (Ex.stays _) <| stays_cons (Ex.stays _) <| stays_cons (Ex.stays _) <| stays_cons (Ex.stays _) <| stays_cons (Ex.stays _) <| stays_cons (Ex.stays _) <| stays_cons (Ex.stays _) <| stays_cons (Ex.stays _) <| stays_cons (SliceOf.stays r X5.d) <| stays_cons (RegOf.stays r X5) <| stays_cons (Ex.stays _) <| stays_cons (Ex.stays _) <| stays_cons (Ex.stays _) <| stays_cons (Ex.stays _) <| stays_cons (Ex.stays _) <| stays_cons (Ex.stays _) <| stays_cons (Ex.stays _) <| stays_nil)
  case step =>
    intro hT i done a' w' hi hJ hr
    have hi : i < 77 := hi
    match i, hi, hr with
      | 0, _, hr =>
        have e2 : a'.eval (.tmp 2) = (.int .i64 0) := hJ.old 2 rfl (by simp)
        refine hJ.pure_ hT rfl rfl rfl rfl (.int .i64 0) ?_ rfl
        have ek : ∀ v, a'.eval (.const v) = v := fun _ => rfl; have ef : ∀ f, a'.eval (.func f) = .func (.func f) #[] #[] := fun _ => rfl
        generalize a'.eval = ev at *
        simp [execOp, go_sem, e2]
      | 1, _, hr =>
        have e75 : a'.eval (.tmp 75) = (.int .i64 0) := hJ.ex (j := 0) rfl hr (by kernel_rfl)
        refine hJ.pure_ hT rfl rfl rfl rfl (.bool true) ?_ rfl
        have ek : ∀ v, a'.eval (.const v) = v := fun _ => rfl; have ef : ∀ f, a'.eval (.func f) = .func (.func f) #[] #[] := fun _ => rfl
        generalize a'.eval = ev at *
        simp [execOp, go_sem, ek, e75]
      | 2, _, hr =>
        have e76 : a'.eval (.tmp 76) = (.bool true) := hJ.ex (j := 1) rfl hr (by kernel_rfl)
        refine hJ.pure_ hT rfl rfl rfl rfl (.bool true) ?_ rfl
        have ek : ∀ v, a'.eval (.const v) = v := fun _ => rfl; have ef : ∀ f, a'.eval (.func f) = .func (.func f) #[] #[] := fun _ => rfl
        generalize a'.eval = ev at *
        simp [execOp, go_sem, e76]
      | 3, _, hr =>
        have e3 : a'.eval (.tmp 3) = (.int .i64 0) := hJ.old 3 rfl (by simp)
        have e77 : a'.eval (.tmp 77) = (.bool true) := hJ.ex (j := 2) rfl hr (by kernel_rfl)
        refine hJ.pure_ hT rfl rfl rfl ((wanted_of (k := 2) (b := true) rfl rfl rfl e77).trans (by decide)) (.int .i64 0) ?_ rfl
        have ek : ∀ v, a'.eval (.const v) = v := fun _ => rfl; have ef : ∀ f, a'.eval (.func f) = .func (.func f) #[] #[] := fun _ => rfl
        generalize a'.eval = ev at *
        simp [execOp, go_sem, e3]
      | 4, _, hr =>
        have e78 : a'.eval (.tmp 78) = (.int .i64 0) := hJ.ex (j := 3) rfl hr (by kernel_rfl)
        have e77 : a'.eval (.tmp 77) = (.bool true) := hJ.ex (j := 2) rfl hr (by kernel_rfl)
        refine hJ.pure_ hT rfl rfl rfl ((wanted_of (k := 2) (b := true) rfl rfl rfl e77).trans (by decide)) (.bool true) ?_ rfl
        have ek : ∀ v, a'.eval (.const v) = v := fun _ => rfl; have ef : ∀ f, a'.eval (.func f) = .func (.func f) #[] #[] := fun _ => rfl
        generalize a'.eval = ev at *
        simp [execOp, go_sem, ek, e78]
      | 5, _, hr =>
        have e77 : a'.eval (.tmp 77) = (.bool true) := hJ.ex (j := 2) rfl hr (by kernel_rfl)
        have e79 : a'.eval (.tmp 79) = (.bool true) := hJ.ex (j := 4) rfl hr (by kernel_rfl)
        refine hJ.pure_ hT rfl rfl rfl rfl (.bool true) ?_ rfl
        have ek : ∀ v, a'.eval (.const v) = v := fun _ => rfl; have ef : ∀ f, a'.eval (.func f) = .func (.func f) #[] #[] := fun _ => rfl
        generalize a'.eval = ev at *
        simp [execOp, go_sem, ek, e77, e79]
      | 6, _, hr =>
        have e80 : a'.eval (.tmp 80) = (.bool true) := hJ.ex (j := 5) rfl hr (by kernel_rfl)
        refine hJ.pure_ hT rfl rfl rfl rfl (.bool true) ?_ rfl
        have ek : ∀ v, a'.eval (.const v) = v := fun _ => rfl; have ef : ∀ f, a'.eval (.func f) = .func (.func f) #[] #[] := fun _ => rfl
        generalize a'.eval = ev at *
        simp [execOp, go_sem, e80]
      | 7, _, hr =>
        have e5 : a'.eval (.tmp 5) = (.int .i64 0) := hJ.old 5 rfl (by simp)
        have e81 : a'.eval (.tmp 81) = (.bool true) := hJ.ex (j := 6) rfl hr (by kernel_rfl)
        refine hJ.pure_ hT rfl rfl rfl ((wanted_of (k := 6) (b := true) rfl rfl rfl e81).trans (by decide)) (.int .i64 0) ?_ rfl
        have ek : ∀ v, a'.eval (.const v) = v := fun _ => rfl; have ef : ∀ f, a'.eval (.func f) = .func (.func f) #[] #[] := fun _ => rfl
        generalize a'.eval = ev at *
        simp [execOp, go_sem, e5]
      | 8, _, hr =>
        have e82 : a'.eval (.tmp 82) = (.int .i64 0) := hJ.ex (j := 7) rfl hr (by kernel_rfl)
        have e81 : a'.eval (.tmp 81) = (.bool true) := hJ.ex (j := 6) rfl hr (by kernel_rfl)
        refine hJ.pure_ hT rfl rfl rfl ((wanted_of (k := 6) (b := true) rfl rfl rfl e81).trans (by decide)) (.bool true) ?_ rfl
        have ek : ∀ v, a'.eval (.const v) = v := fun _ => rfl; have ef : ∀ f, a'.eval (.func f) = .func (.func f) #[] #[] := fun _ => rfl
        generalize a'.eval = ev at *
        simp [execOp, go_sem, ek, e82]
      | 9, _, hr =>
        have e81 : a'.eval (.tmp 81) = (.bool true) := hJ.ex (j := 6) rfl hr (by kernel_rfl)
        have e83 : a'.eval (.tmp 83) = (.bool true) := hJ.ex (j := 8) rfl hr (by kernel_rfl)
        refine hJ.pure_ hT rfl rfl rfl rfl (.bool true) ?_ rfl
        have ek : ∀ v, a'.eval (.const v) = v := fun _ => rfl; have ef : ∀ f, a'.eval (.func f) = .func (.func f) #[] #[] := fun _ => rfl
        generalize a'.eval = ev at *
        simp [execOp, go_sem, ek, e81, e83]
      | 10, _, hr =>
        have e84 : a'.eval (.tmp 84) = (.bool true) := hJ.ex (j := 9) rfl hr (by kernel_rfl)
        refine hJ.pure_ hT rfl rfl rfl rfl (.bool true) ?_ rfl
        have ek : ∀ v, a'.eval (.const v) = v := fun _ => rfl; have ef : ∀ f, a'.eval (.func f) = .func (.func f) #[] #[] := fun _ => rfl
        generalize a'.eval = ev at *
        simp [execOp, go_sem, e84]
      | 11, _, hr =>
        have e4 : a'.eval (.tmp 4) = (.pointer (some ⟨w3.heap.size + m4.bs.size, 0, none⟩)) := hJ.old 4 rfl (by simp)
        have e85 : a'.eval (.tmp 85) = (.bool true) := hJ.ex (j := 10) rfl hr (by kernel_rfl)
        obtain ⟨q0, q1, _, _, _⟩ := HB4.out.grows hJ.grows
        refine hJ.pure_ hT rfl rfl rfl ((wanted_of (k := 10) (b := true) rfl rfl rfl e85).trans (by decide)) (.agg #[.slice A4 X12.d.length c4, .bool X12.whole]) ?_ rfl
        have ek : ∀ v, a'.eval (.const v) = v := fun _ => rfl; have ef : ∀ f, a'.eval (.func f) = .func (.func f) #[] #[] := fun _ => rfl
        generalize a'.eval = ev at *
        simp [execOp, go_sem, q0, q1, e4]
      | 12, _, hr =>
        have e85 : a'.eval (.tmp 85) = (.bool true) := hJ.ex (j := 10) rfl hr (by kernel_rfl)
        refine VJ.arr hJ hT rfl rfl rfl ((wanted_of (k := 10) (b := true) rfl rfl rfl e85).trans (by decide)) #[.string { data := #[111, 110, 101] }, .string { data := #[116, 119, 111] }] 2 9 ?_ ⟨w'.heap.size, rfl, lrd_at r X12.d cX12 lX12 nX12 (Nat.lt_of_lt_of_le hrE hJ.grows.below.size)⟩
        have ek : ∀ v, a'.eval (.const v) = v := fun _ => rfl; have ef : ∀ f, a'.eval (.func f) = .func (.func f) #[] #[] := fun _ => rfl
        generalize a'.eval = ev at *
        simp [execOp, go_sem, ek]
      | 13, _, hr =>
        have e87 : (SliceOf r X12.d) w' (a'.eval (.tmp 87)) := hJ.has (j := 12) rfl hr (by kernel_rfl)
        have e85 : a'.eval (.tmp 85) = (.bool true) := hJ.ex (j := 10) rfl hr (by kernel_rfl)
        obtain ⟨g, eg, hg⟩ := e87
        refine hJ.call_ hT rfl rfl rfl ((wanted_of (k := 10) (b := true) rfl rfl rfl e85).trans (by decide)) 23 #[.bool true, .slice (some ⟨g, 0, none⟩) X12.d.length X12.d.length] ?_ ?_
        · have hent := entText #[.bool true, .slice (some ⟨g, 0, none⟩) X12.d.length X12.d.length] w'
          have ek : ∀ v, a'.eval (.const v) = v := fun _ => rfl; have ef : ∀ f, a'.eval (.func f) = .func (.func f) #[] #[] := fun _ => rfl
          clear hJ hr hT
          generalize a'.eval = ev at *
          simp [execOp, resolve, invoke, Deferred.ofValue, go_sem, hent, ek, ef, eg]
        · refine (text_any _ _ _ _ _).mono ?_
          rintro e w1 ⟨rfl, hg1⟩
          exact ⟨_, rfl, hg1, ⟨g, rfl, hg.grows hg1⟩⟩
      | 14, _, hr =>
        have e86 : a'.eval (.tmp 86) = (.agg #[.slice A4 X12.d.length c4, .bool X12.whole]) := hJ.ex (j := 11) rfl hr (by kernel_rfl)
        have e88 : (RegOf r X12) w' (a'.eval (.tmp 88)) := hJ.has (j := 13) rfl hr (by kernel_rfl)
        have e85 : a'.eval (.tmp 85) = (.bool true) := hJ.ex (j := 10) rfl hr (by kernel_rfl)
        obtain ⟨g, eg, hg⟩ := e88
        refine hJ.call_ hT rfl rfl rfl ((wanted_of (k := 10) (b := true) rfl rfl rfl e85).trans (by decide)) 16 #[.agg #[.slice A4 X12.d.length c4, .bool X12.whole], .agg #[.slice (some ⟨g, 0, none⟩) X12.d.length X12.d.length, .bool X12.whole]] ?_ ?_
        · have hent := entSame #[.agg #[.slice A4 X12.d.length c4, .bool X12.whole], .agg #[.slice (some ⟨g, 0, none⟩) X12.d.length X12.d.length, .bool X12.whole]] w'
          have ek : ∀ v, a'.eval (.const v) = v := fun _ => rfl; have ef : ∀ f, a'.eval (.func f) = .func (.func f) #[] #[] := fun _ => rfl
          clear hJ hr hT
          generalize a'.eval = ev at *
          simp [execOp, resolve, invoke, Deferred.ofValue, go_sem, hent, ef, eg, e86]
        · refine (same_lit X12 _ _ _ _ _ _ _ _ _ (HB4.out.grows hJ.grows).rd hg rfl rfl rfl rfl lX12).mono ?_
          rintro e w1 ⟨rfl, hg1⟩
          exact ⟨_, rfl, hg1, rfl⟩
      | 15, _, hr =>
        have e85 : a'.eval (.tmp 85) = (.bool true) := hJ.ex (j := 10) rfl hr (by kernel_rfl)
        have e89 : a'.eval (.tmp 89) = (.bool true) := hJ.ex (j := 14) rfl hr (by kernel_rfl)
        refine hJ.pure_ hT rfl rfl rfl rfl (.bool true) ?_ rfl
        have ek : ∀ v, a'.eval (.const v) = v := fun _ => rfl; have ef : ∀ f, a'.eval (.func f) = .func (.func f) #[] #[] := fun _ => rfl
        generalize a'.eval = ev at *
        simp [execOp, go_sem, ek, e85, e89]
      | 16, _, hr =>
        have e90 : a'.eval (.tmp 90) = (.bool true) := hJ.ex (j := 15) rfl hr (by kernel_rfl)
        refine hJ.pure_ hT rfl rfl rfl rfl (.bool true) ?_ rfl
        have ek : ∀ v, a'.eval (.const v) = v := fun _ => rfl; have ef : ∀ f, a'.eval (.func f) = .func (.func f) #[] #[] := fun _ => rfl
        generalize a'.eval = ev at *
        simp [execOp, go_sem, e90]
      | 17, _, hr =>
        have e7 : a'.eval (.tmp 7) = (.int .i64 0) := hJ.old 7 rfl (by simp)
        have e91 : a'.eval (.tmp 91) = (.bool true) := hJ.ex (j := 16) rfl hr (by kernel_rfl)
        refine hJ.pure_ hT rfl rfl rfl ((wanted_of (k := 16) (b := true) rfl rfl rfl e91).trans (by decide)) (.int .i64 0) ?_ rfl
        have ek : ∀ v, a'.eval (.const v) = v := fun _ => rfl; have ef : ∀ f, a'.eval (.func f) = .func (.func f) #[] #[] := fun _ => rfl
        generalize a'.eval = ev at *
        simp [execOp, go_sem, e7]
      | 18, _, hr =>
        have e92 : a'.eval (.tmp 92) = (.int .i64 0) := hJ.ex (j := 17) rfl hr (by kernel_rfl)
        have e91 : a'.eval (.tmp 91) = (.bool true) := hJ.ex (j := 16) rfl hr (by kernel_rfl)
        refine hJ.pure_ hT rfl rfl rfl ((wanted_of (k := 16) (b := true) rfl rfl rfl e91).trans (by decide)) (.bool true) ?_ rfl
        have ek : ∀ v, a'.eval (.const v) = v := fun _ => rfl; have ef : ∀ f, a'.eval (.func f) = .func (.func f) #[] #[] := fun _ => rfl
        generalize a'.eval = ev at *
        simp [execOp, go_sem, ek, e92]
      | 19, _, hr =>
        have e91 : a'.eval (.tmp 91) = (.bool true) := hJ.ex (j := 16) rfl hr (by kernel_rfl)
        have e93 : a'.eval (.tmp 93) = (.bool true) := hJ.ex (j := 18) rfl hr (by kernel_rfl)
        refine hJ.pure_ hT rfl rfl rfl rfl (.bool true) ?_ rfl
        have ek : ∀ v, a'.eval (.const v) = v := fun _ => rfl; have ef : ∀ f, a'.eval (.func f) = .func (.func f) #[] #[] := fun _ => rfl
        generalize a'.eval = ev at *
        simp [execOp, go_sem, ek, e91, e93]
      | 20, _, hr =>
        have e94 : a'.eval (.tmp 94) = (.bool true) := hJ.ex (j := 19) rfl hr (by kernel_rfl)
        refine hJ.pure_ hT rfl rfl rfl rfl (.bool true) ?_ rfl
        have ek : ∀ v, a'.eval (.const v) = v := fun _ => rfl; have ef : ∀ f, a'.eval (.func f) = .func (.func f) #[] #[] := fun _ => rfl
        generalize a'.eval = ev at *
        simp [execOp, go_sem, e94]
      | 21, _, hr =>
        have e6 : a'.eval (.tmp 6) = (.pointer (some ⟨w3.heap.size + m4.bs.size + 1 + m6.bs.size, 0, none⟩)) := hJ.old 6 rfl (by simp)
        have e95 : a'.eval (.tmp 95) = (.bool true) := hJ.ex (j := 20) rfl hr (by kernel_rfl)
        obtain ⟨q0, q1, _, _, _⟩ := HB6.out.grows hJ.grows
        refine hJ.pure_ hT rfl rfl rfl ((wanted_of (k := 20) (b := true) rfl rfl rfl e95).trans (by decide)) (.agg #[.slice A6 X2.d.length c6, .bool X2.whole]) ?_ rfl
        have ek : ∀ v, a'.eval (.const v) = v := fun _ => rfl; have ef : ∀ f, a'.eval (.func f) = .func (.func f) #[] #[] := fun _ => rfl
        generalize a'.eval = ev at *
        simp [execOp, go_sem, q0, q1, e6]
      | 22, _, hr =>
        have e95 : a'.eval (.tmp 95) = (.bool true) := hJ.ex (j := 20) rfl hr (by kernel_rfl)
        refine VJ.arr hJ hT rfl rfl rfl ((wanted_of (k := 20) (b := true) rfl rfl rfl e95).trans (by decide)) #[.string { data := #[116, 119, 111] }] 1 9 ?_ ⟨w'.heap.size, rfl, lrd_at r X2.d cX2 lX2 nX2 (Nat.lt_of_lt_of_le hrE hJ.grows.below.size)⟩
        have ek : ∀ v, a'.eval (.const v) = v := fun _ => rfl; have ef : ∀ f, a'.eval (.func f) = .func (.func f) #[] #[] := fun _ => rfl
        generalize a'.eval = ev at *
        simp [execOp, go_sem, ek]
      | 23, _, hr =>
        have e97 : (SliceOf r X2.d) w' (a'.eval (.tmp 97)) := hJ.has (j := 22) rfl hr (by kernel_rfl)
        have e95 : a'.eval (.tmp 95) = (.bool true) := hJ.ex (j := 20) rfl hr (by kernel_rfl)
        obtain ⟨g, eg, hg⟩ := e97
        refine hJ.call_ hT rfl rfl rfl ((wanted_of (k := 20) (b := true) rfl rfl rfl e95).trans (by decide)) 23 #[.bool true, .slice (some ⟨g, 0, none⟩) X2.d.length X2.d.length] ?_ ?_
        · have hent := entText #[.bool true, .slice (some ⟨g, 0, none⟩) X2.d.length X2.d.length] w'
          have ek : ∀ v, a'.eval (.const v) = v := fun _ => rfl; have ef : ∀ f, a'.eval (.func f) = .func (.func f) #[] #[] := fun _ => rfl
          clear hJ hr hT
          generalize a'.eval = ev at *
          simp [execOp, resolve, invoke, Deferred.ofValue, go_sem, hent, ek, ef, eg]
        · refine (text_any _ _ _ _ _).mono ?_
          rintro e w1 ⟨rfl, hg1⟩
          exact ⟨_, rfl, hg1, ⟨g, rfl, hg.grows hg1⟩⟩
      | 24, _, hr =>
        have e96 : a'.eval (.tmp 96) = (.agg #[.slice A6 X2.d.length c6, .bool X2.whole]) := hJ.ex (j := 21) rfl hr (by kernel_rfl)
        have e98 : (RegOf r X2) w' (a'.eval (.tmp 98)) := hJ.has (j := 23) rfl hr (by kernel_rfl)
        have e95 : a'.eval (.tmp 95) = (.bool true) := hJ.ex (j := 20) rfl hr (by kernel_rfl)
        obtain ⟨g, eg, hg⟩ := e98
        refine hJ.call_ hT rfl rfl rfl ((wanted_of (k := 20) (b := true) rfl rfl rfl e95).trans (by decide)) 16 #[.agg #[.slice A6 X2.d.length c6, .bool X2.whole], .agg #[.slice (some ⟨g, 0, none⟩) X2.d.length X2.d.length, .bool X2.whole]] ?_ ?_
        · have hent := entSame #[.agg #[.slice A6 X2.d.length c6, .bool X2.whole], .agg #[.slice (some ⟨g, 0, none⟩) X2.d.length X2.d.length, .bool X2.whole]] w'
          have ek : ∀ v, a'.eval (.const v) = v := fun _ => rfl; have ef : ∀ f, a'.eval (.func f) = .func (.func f) #[] #[] := fun _ => rfl
          clear hJ hr hT
          generalize a'.eval = ev at *
          simp [execOp, resolve, invoke, Deferred.ofValue, go_sem, hent, ef, eg, e96]
        · refine (same_lit X2 _ _ _ _ _ _ _ _ _ (HB6.out.grows hJ.grows).rd hg rfl rfl rfl rfl lX2).mono ?_
          rintro e w1 ⟨rfl, hg1⟩
          exact ⟨_, rfl, hg1, rfl⟩
      | 25, _, hr =>
        have e95 : a'.eval (.tmp 95) = (.bool true) := hJ.ex (j := 20) rfl hr (by kernel_rfl)
        have e99 : a'.eval (.tmp 99) = (.bool true) := hJ.ex (j := 24) rfl hr (by kernel_rfl)
        refine hJ.pure_ hT rfl rfl rfl rfl (.bool true) ?_ rfl
        have ek : ∀ v, a'.eval (.const v) = v := fun _ => rfl; have ef : ∀ f, a'.eval (.func f) = .func (.func f) #[] #[] := fun _ => rfl
        generalize a'.eval = ev at *
        simp [execOp, go_sem, ek, e95, e99]
      | 26, _, hr =>
        have e100 : a'.eval (.tmp 100) = (.bool true) := hJ.ex (j := 25) rfl hr (by kernel_rfl)
        refine hJ.pure_ hT rfl rfl rfl rfl (.bool true) ?_ rfl
        have ek : ∀ v, a'.eval (.const v) = v := fun _ => rfl; have ef : ∀ f, a'.eval (.func f) = .func (.func f) #[] #[] := fun _ => rfl
        generalize a'.eval = ev at *
        simp [execOp, go_sem, e100]
      | 27, _, hr =>
        have e8 : a'.eval (.tmp 8) = (.int .i64 0) := hJ.old 8 rfl (by simp)
        have e101 : a'.eval (.tmp 101) = (.bool true) := hJ.ex (j := 26) rfl hr (by kernel_rfl)
        refine hJ.pure_ hT rfl rfl rfl ((wanted_of (k := 26) (b := true) rfl rfl rfl e101).trans (by decide)) (.int .i64 0) ?_ rfl
        have ek : ∀ v, a'.eval (.const v) = v := fun _ => rfl; have ef : ∀ f, a'.eval (.func f) = .func (.func f) #[] #[] := fun _ => rfl
        generalize a'.eval = ev at *
        simp [execOp, go_sem, e8]
      | 28, _, hr =>
        have e102 : a'.eval (.tmp 102) = (.int .i64 0) := hJ.ex (j := 27) rfl hr (by kernel_rfl)
        have e101 : a'.eval (.tmp 101) = (.bool true) := hJ.ex (j := 26) rfl hr (by kernel_rfl)
        refine hJ.pure_ hT rfl rfl rfl ((wanted_of (k := 26) (b := true) rfl rfl rfl e101).trans (by decide)) (.bool true) ?_ rfl
        have ek : ∀ v, a'.eval (.const v) = v := fun _ => rfl; have ef : ∀ f, a'.eval (.func f) = .func (.func f) #[] #[] := fun _ => rfl
        generalize a'.eval = ev at *
        simp [execOp, go_sem, ek, e102]
      | 29, _, hr =>
        have e101 : a'.eval (.tmp 101) = (.bool true) := hJ.ex (j := 26) rfl hr (by kernel_rfl)
        have e103 : a'.eval (.tmp 103) = (.bool true) := hJ.ex (j := 28) rfl hr (by kernel_rfl)
        refine hJ.pure_ hT rfl rfl rfl rfl (.bool true) ?_ rfl
        have ek : ∀ v, a'.eval (.const v) = v := fun _ => rfl; have ef : ∀ f, a'.eval (.func f) = .func (.func f) #[] #[] := fun _ => rfl
        generalize a'.eval = ev at *
        simp [execOp, go_sem, ek, e101, e103]
      | 30, _, hr =>
        have e104 : a'.eval (.tmp 104) = (.bool true) := hJ.ex (j := 29) rfl hr (by kernel_rfl)
        refine hJ.pure_ hT rfl rfl rfl rfl (.bool true) ?_ rfl
        have ek : ∀ v, a'.eval (.const v) = v := fun _ => rfl; have ef : ∀ f, a'.eval (.func f) = .func (.func f) #[] #[] := fun _ => rfl
        generalize a'.eval = ev at *
        simp [execOp, go_sem, e104]
      | 31, _, hr =>
        have e9 : a'.eval (.tmp 9) = (.int .i64 0) := hJ.old 9 rfl (by simp)
        have e105 : a'.eval (.tmp 105) = (.bool true) := hJ.ex (j := 30) rfl hr (by kernel_rfl)
        refine hJ.pure_ hT rfl rfl rfl ((wanted_of (k := 30) (b := true) rfl rfl rfl e105).trans (by decide)) (.int .i64 0) ?_ rfl
        have ek : ∀ v, a'.eval (.const v) = v := fun _ => rfl; have ef : ∀ f, a'.eval (.func f) = .func (.func f) #[] #[] := fun _ => rfl
        generalize a'.eval = ev at *
        simp [execOp, go_sem, e9]
      | 32, _, hr =>
        have e106 : a'.eval (.tmp 106) = (.int .i64 0) := hJ.ex (j := 31) rfl hr (by kernel_rfl)
        have e105 : a'.eval (.tmp 105) = (.bool true) := hJ.ex (j := 30) rfl hr (by kernel_rfl)
        refine hJ.pure_ hT rfl rfl rfl ((wanted_of (k := 30) (b := true) rfl rfl rfl e105).trans (by decide)) (.bool true) ?_ rfl
        have ek : ∀ v, a'.eval (.const v) = v := fun _ => rfl; have ef : ∀ f, a'.eval (.func f) = .func (.func f) #[] #[] := fun _ => rfl
        generalize a'.eval = ev at *
        simp [execOp, go_sem, ek, e106]
      | 33, _, hr =>
        have e105 : a'.eval (.tmp 105) = (.bool true) := hJ.ex (j := 30) rfl hr (by kernel_rfl)
        have e107 : a'.eval (.tmp 107) = (.bool true) := hJ.ex (j := 32) rfl hr (by kernel_rfl)
        refine hJ.pure_ hT rfl rfl rfl rfl (.bool true) ?_ rfl
        have ek : ∀ v, a'.eval (.const v) = v := fun _ => rfl; have ef : ∀ f, a'.eval (.func f) = .func (.func f) #[] #[] := fun _ => rfl
        generalize a'.eval = ev at *
        simp [execOp, go_sem, ek, e105, e107]
      | 34, _, hr =>
        have e108 : a'.eval (.tmp 108) = (.bool true) := hJ.ex (j := 33) rfl hr (by kernel_rfl)
        refine hJ.pure_ hT rfl rfl rfl rfl (.bool true) ?_ rfl
        have ek : ∀ v, a'.eval (.const v) = v := fun _ => rfl; have ef : ∀ f, a'.eval (.func f) = .func (.func f) #[] #[] := fun _ => rfl
        generalize a'.eval = ev at *
        simp [execOp, go_sem, e108]
      | 35, _, hr =>
        have e11 : a'.eval (.tmp 11) = (.int .i64 0) := hJ.old 11 rfl (by simp)
        have e109 : a'.eval (.tmp 109) = (.bool true) := hJ.ex (j := 34) rfl hr (by kernel_rfl)
        refine hJ.pure_ hT rfl rfl rfl ((wanted_of (k := 34) (b := true) rfl rfl rfl e109).trans (by decide)) (.int .i64 0) ?_ rfl
        have ek : ∀ v, a'.eval (.const v) = v := fun _ => rfl; have ef : ∀ f, a'.eval (.func f) = .func (.func f) #[] #[] := fun _ => rfl
        generalize a'.eval = ev at *
        simp [execOp, go_sem, e11]
      | 36, _, hr =>
        have e110 : a'.eval (.tmp 110) = (.int .i64 0) := hJ.ex (j := 35) rfl hr (by kernel_rfl)
        have e109 : a'.eval (.tmp 109) = (.bool true) := hJ.ex (j := 34) rfl hr (by kernel_rfl)
        refine hJ.pure_ hT rfl rfl rfl ((wanted_of (k := 34) (b := true) rfl rfl rfl e109).trans (by decide)) (.bool true) ?_ rfl
        have ek : ∀ v, a'.eval (.const v) = v := fun _ => rfl; have ef : ∀ f, a'.eval (.func f) = .func (.func f) #[] #[] := fun _ => rfl
        generalize a'.eval = ev at *
        simp [execOp, go_sem, ek, e110]
      | 37, _, hr =>
        have e109 : a'.eval (.tmp 109) = (.bool true) := hJ.ex (j := 34) rfl hr (by kernel_rfl)
        have e111 : a'.eval (.tmp 111) = (.bool true) := hJ.ex (j := 36) rfl hr (by kernel_rfl)
        refine hJ.pure_ hT rfl rfl rfl rfl (.bool true) ?_ rfl
        have ek : ∀ v, a'.eval (.const v) = v := fun _ => rfl; have ef : ∀ f, a'.eval (.func f) = .func (.func f) #[] #[] := fun _ => rfl
        generalize a'.eval = ev at *
        simp [execOp, go_sem, ek, e109, e111]
      | 38, _, hr =>
        have e112 : a'.eval (.tmp 112) = (.bool true) := hJ.ex (j := 37) rfl hr (by kernel_rfl)
        refine hJ.pure_ hT rfl rfl rfl rfl (.bool true) ?_ rfl
        have ek : ∀ v, a'.eval (.const v) = v := fun _ => rfl; have ef : ∀ f, a'.eval (.func f) = .func (.func f) #[] #[] := fun _ => rfl
        generalize a'.eval = ev at *
        simp [execOp, go_sem, e112]
      | 39, _, hr =>
        have e10 : a'.eval (.tmp 10) = (.pointer (some ⟨w5.heap.size + m10.bs.size, 0, none⟩)) := hJ.old 10 rfl (by simp)
        have e113 : a'.eval (.tmp 113) = (.bool true) := hJ.ex (j := 38) rfl hr (by kernel_rfl)
        obtain ⟨q0, q1, _, _, _⟩ := HB10.out.grows hJ.grows
        refine hJ.pure_ hT rfl rfl rfl ((wanted_of (k := 38) (b := true) rfl rfl rfl e113).trans (by decide)) (.agg #[.slice A10 X34.d.length c10, .bool X34.whole]) ?_ rfl
        have ek : ∀ v, a'.eval (.const v) = v := fun _ => rfl; have ef : ∀ f, a'.eval (.func f) = .func (.func f) #[] #[] := fun _ => rfl
        generalize a'.eval = ev at *
        simp [execOp, go_sem, q0, q1, e10]
      | 40, _, hr =>
        have e113 : a'.eval (.tmp 113) = (.bool true) := hJ.ex (j := 38) rfl hr (by kernel_rfl)
        refine VJ.arr hJ hT rfl rfl rfl ((wanted_of (k := 38) (b := true) rfl rfl rfl e113).trans (by decide)) #[.string { data := #[120, 121] }, .string { data := #[122] }] 2 9 ?_ ⟨w'.heap.size, rfl, lrd_at r X34.d cX34 lX34 nX34 (Nat.lt_of_lt_of_le hrE hJ.grows.below.size)⟩
        have ek : ∀ v, a'.eval (.const v) = v := fun _ => rfl; have ef : ∀ f, a'.eval (.func f) = .func (.func f) #[] #[] := fun _ => rfl
        generalize a'.eval = ev at *
        simp [execOp, go_sem, ek]
      | 41, _, hr =>
        have e115 : (SliceOf r X34.d) w' (a'.eval (.tmp 115)) := hJ.has (j := 40) rfl hr (by kernel_rfl)
        have e113 : a'.eval (.tmp 113) = (.bool true) := hJ.ex (j := 38) rfl hr (by kernel_rfl)
        obtain ⟨g, eg, hg⟩ := e115
        refine hJ.call_ hT rfl rfl rfl ((wanted_of (k := 38) (b := true) rfl rfl rfl e113).trans (by decide)) 23 #[.bool false, .slice (some ⟨g, 0, none⟩) X34.d.length X34.d.length] ?_ ?_
        · have hent := entText #[.bool false, .slice (some ⟨g, 0, none⟩) X34.d.length X34.d.length] w'
          have ek : ∀ v, a'.eval (.const v) = v := fun _ => rfl; have ef : ∀ f, a'.eval (.func f) = .func (.func f) #[] #[] := fun _ => rfl
          clear hJ hr hT
          generalize a'.eval = ev at *
          simp [execOp, resolve, invoke, Deferred.ofValue, go_sem, hent, ek, ef, eg]
        · refine (text_any _ _ _ _ _).mono ?_
          rintro e w1 ⟨rfl, hg1⟩
          exact ⟨_, rfl, hg1, ⟨g, rfl, hg.grows hg1⟩⟩
      | 42, _, hr =>
        have e114 : a'.eval (.tmp 114) = (.agg #[.slice A10 X34.d.length c10, .bool X34.whole]) := hJ.ex (j := 39) rfl hr (by kernel_rfl)
        have e116 : (RegOf r X34) w' (a'.eval (.tmp 116)) := hJ.has (j := 41) rfl hr (by kernel_rfl)
        have e113 : a'.eval (.tmp 113) = (.bool true) := hJ.ex (j := 38) rfl hr (by kernel_rfl)
        obtain ⟨g, eg, hg⟩ := e116
        refine hJ.call_ hT rfl rfl rfl ((wanted_of (k := 38) (b := true) rfl rfl rfl e113).trans (by decide)) 16 #[.agg #[.slice A10 X34.d.length c10, .bool X34.whole], .agg #[.slice (some ⟨g, 0, none⟩) X34.d.length X34.d.length, .bool X34.whole]] ?_ ?_
        · have hent := entSame #[.agg #[.slice A10 X34.d.length c10, .bool X34.whole], .agg #[.slice (some ⟨g, 0, none⟩) X34.d.length X34.d.length, .bool X34.whole]] w'
          have ek : ∀ v, a'.eval (.const v) = v := fun _ => rfl; have ef : ∀ f, a'.eval (.func f) = .func (.func f) #[] #[] := fun _ => rfl
          clear hJ hr hT
          generalize a'.eval = ev at *
          simp [execOp, resolve, invoke, Deferred.ofValue, go_sem, hent, ef, eg, e114]
        · refine (same_lit X34 _ _ _ _ _ _ _ _ _ (HB10.out.grows hJ.grows).rd hg rfl rfl rfl rfl lX34).mono ?_
          rintro e w1 ⟨rfl, hg1⟩
          exact ⟨_, rfl, hg1, rfl⟩
      | 43, _, hr =>
        have e113 : a'.eval (.tmp 113) = (.bool true) := hJ.ex (j := 38) rfl hr (by kernel_rfl)
        have e117 : a'.eval (.tmp 117) = (.bool true) := hJ.ex (j := 42) rfl hr (by kernel_rfl)
        refine hJ.pure_ hT rfl rfl rfl rfl (.bool true) ?_ rfl
        have ek : ∀ v, a'.eval (.const v) = v := fun _ => rfl; have ef : ∀ f, a'.eval (.func f) = .func (.func f) #[] #[] := fun _ => rfl
        generalize a'.eval = ev at *
        simp [execOp, go_sem, ek, e113, e117]
      | 44, _, hr =>
        have e118 : a'.eval (.tmp 118) = (.bool true) := hJ.ex (j := 43) rfl hr (by kernel_rfl)
        refine hJ.pure_ hT rfl rfl rfl rfl (.bool true) ?_ rfl
        have ek : ∀ v, a'.eval (.const v) = v := fun _ => rfl; have ef : ∀ f, a'.eval (.func f) = .func (.func f) #[] #[] := fun _ => rfl
        generalize a'.eval = ev at *
        simp [execOp, go_sem, e118]
      | 45, _, hr =>
        have e12 : a'.eval (.tmp 12) = (.int .i64 0) := hJ.old 12 rfl (by simp)
        have e119 : a'.eval (.tmp 119) = (.bool true) := hJ.ex (j := 44) rfl hr (by kernel_rfl)
        refine hJ.pure_ hT rfl rfl rfl ((wanted_of (k := 44) (b := true) rfl rfl rfl e119).trans (by decide)) (.int .i64 0) ?_ rfl
        have ek : ∀ v, a'.eval (.const v) = v := fun _ => rfl; have ef : ∀ f, a'.eval (.func f) = .func (.func f) #[] #[] := fun _ => rfl
        generalize a'.eval = ev at *
        simp [execOp, go_sem, e12]
      | 46, _, hr =>
        have e120 : a'.eval (.tmp 120) = (.int .i64 0) := hJ.ex (j := 45) rfl hr (by kernel_rfl)
        have e119 : a'.eval (.tmp 119) = (.bool true) := hJ.ex (j := 44) rfl hr (by kernel_rfl)
        refine hJ.pure_ hT rfl rfl rfl ((wanted_of (k := 44) (b := true) rfl rfl rfl e119).trans (by decide)) (.bool true) ?_ rfl
        have ek : ∀ v, a'.eval (.const v) = v := fun _ => rfl; have ef : ∀ f, a'.eval (.func f) = .func (.func f) #[] #[] := fun _ => rfl
        generalize a'.eval = ev at *
        simp [execOp, go_sem, ek, e120]
      | 47, _, hr =>
        have e119 : a'.eval (.tmp 119) = (.bool true) := hJ.ex (j := 44) rfl hr (by kernel_rfl)
        have e121 : a'.eval (.tmp 121) = (.bool true) := hJ.ex (j := 46) rfl hr (by kernel_rfl)
        refine hJ.pure_ hT rfl rfl rfl rfl (.bool true) ?_ rfl
        have ek : ∀ v, a'.eval (.const v) = v := fun _ => rfl; have ef : ∀ f, a'.eval (.func f) = .func (.func f) #[] #[] := fun _ => rfl
        generalize a'.eval = ev at *
        simp [execOp, go_sem, ek, e119, e121]
      | 48, _, hr =>
        have e122 : a'.eval (.tmp 122) = (.bool true) := hJ.ex (j := 47) rfl hr (by kernel_rfl)
        refine hJ.pure_ hT rfl rfl rfl rfl (.bool true) ?_ rfl
        have ek : ∀ v, a'.eval (.const v) = v := fun _ => rfl; have ef : ∀ f, a'.eval (.func f) = .func (.func f) #[] #[] := fun _ => rfl
        generalize a'.eval = ev at *
        simp [execOp, go_sem, e122]
      | 49, _, hr =>
        have e13 : a'.eval (.tmp 13) = (.int .i64 0) := hJ.old 13 rfl (by simp)
        have e123 : a'.eval (.tmp 123) = (.bool true) := hJ.ex (j := 48) rfl hr (by kernel_rfl)
        refine hJ.pure_ hT rfl rfl rfl ((wanted_of (k := 48) (b := true) rfl rfl rfl e123).trans (by decide)) (.int .i64 0) ?_ rfl
        have ek : ∀ v, a'.eval (.const v) = v := fun _ => rfl; have ef : ∀ f, a'.eval (.func f) = .func (.func f) #[] #[] := fun _ => rfl
        generalize a'.eval = ev at *
        simp [execOp, go_sem, e13]
      | 50, _, hr =>
        have e124 : a'.eval (.tmp 124) = (.int .i64 0) := hJ.ex (j := 49) rfl hr (by kernel_rfl)
        have e123 : a'.eval (.tmp 123) = (.bool true) := hJ.ex (j := 48) rfl hr (by kernel_rfl)
        refine hJ.pure_ hT rfl rfl rfl ((wanted_of (k := 48) (b := true) rfl rfl rfl e123).trans (by decide)) (.bool true) ?_ rfl
        have ek : ∀ v, a'.eval (.const v) = v := fun _ => rfl; have ef : ∀ f, a'.eval (.func f) = .func (.func f) #[] #[] := fun _ => rfl
        generalize a'.eval = ev at *
        simp [execOp, go_sem, ek, e124]
      | 51, _, hr =>
        have e123 : a'.eval (.tmp 123) = (.bool true) := hJ.ex (j := 48) rfl hr (by kernel_rfl)
        have e125 : a'.eval (.tmp 125) = (.bool true) := hJ.ex (j := 50) rfl hr (by kernel_rfl)
        refine hJ.pure_ hT rfl rfl rfl rfl (.bool true) ?_ rfl
        have ek : ∀ v, a'.eval (.const v) = v := fun _ => rfl; have ef : ∀ f, a'.eval (.func f) = .func (.func f) #[] #[] := fun _ => rfl
        generalize a'.eval = ev at *
        simp [execOp, go_sem, ek, e123, e125]
      | 52, _, hr =>
        have e126 : a'.eval (.tmp 126) = (.bool true) := hJ.ex (j := 51) rfl hr (by kernel_rfl)
        refine hJ.pure_ hT rfl rfl rfl rfl (.bool true) ?_ rfl
        have ek : ∀ v, a'.eval (.const v) = v := fun _ => rfl; have ef : ∀ f, a'.eval (.func f) = .func (.func f) #[] #[] := fun _ => rfl
        generalize a'.eval = ev at *
        simp [execOp, go_sem, e126]
      | 53, _, hr =>
        have e15 : a'.eval (.tmp 15) = (.int .i64 0) := hJ.old 15 rfl (by simp)
        have e127 : a'.eval (.tmp 127) = (.bool true) := hJ.ex (j := 52) rfl hr (by kernel_rfl)
        refine hJ.pure_ hT rfl rfl rfl ((wanted_of (k := 52) (b := true) rfl rfl rfl e127).trans (by decide)) (.int .i64 0) ?_ rfl
        have ek : ∀ v, a'.eval (.const v) = v := fun _ => rfl; have ef : ∀ f, a'.eval (.func f) = .func (.func f) #[] #[] := fun _ => rfl
        generalize a'.eval = ev at *
        simp [execOp, go_sem, e15]
      | 54, _, hr =>
        have e128 : a'.eval (.tmp 128) = (.int .i64 0) := hJ.ex (j := 53) rfl hr (by kernel_rfl)
        have e127 : a'.eval (.tmp 127) = (.bool true) := hJ.ex (j := 52) rfl hr (by kernel_rfl)
        refine hJ.pure_ hT rfl rfl rfl ((wanted_of (k := 52) (b := true) rfl rfl rfl e127).trans (by decide)) (.bool true) ?_ rfl
        have ek : ∀ v, a'.eval (.const v) = v := fun _ => rfl; have ef : ∀ f, a'.eval (.func f) = .func (.func f) #[] #[] := fun _ => rfl
        generalize a'.eval = ev at *
        simp [execOp, go_sem, ek, e128]
      | 55, _, hr =>
        have e127 : a'.eval (.tmp 127) = (.bool true) := hJ.ex (j := 52) rfl hr (by kernel_rfl)
        have e129 : a'.eval (.tmp 129) = (.bool true) := hJ.ex (j := 54) rfl hr (by kernel_rfl)
        refine hJ.pure_ hT rfl rfl rfl rfl (.bool true) ?_ rfl
        have ek : ∀ v, a'.eval (.const v) = v := fun _ => rfl; have ef : ∀ f, a'.eval (.func f) = .func (.func f) #[] #[] := fun _ => rfl
        generalize a'.eval = ev at *
        simp [execOp, go_sem, ek, e127, e129]
      | 56, _, hr =>
        have e130 : a'.eval (.tmp 130) = (.bool true) := hJ.ex (j := 55) rfl hr (by kernel_rfl)
        refine hJ.pure_ hT rfl rfl rfl rfl (.bool true) ?_ rfl
        have ek : ∀ v, a'.eval (.const v) = v := fun _ => rfl; have ef : ∀ f, a'.eval (.func f) = .func (.func f) #[] #[] := fun _ => rfl
        generalize a'.eval = ev at *
        simp [execOp, go_sem, e130]
      | 57, _, hr =>
        have e14 : a'.eval (.tmp 14) = (.pointer (some ⟨w7.heap.size + m14.bs.size, 0, none⟩)) := hJ.old 14 rfl (by simp)
        have e131 : a'.eval (.tmp 131) = (.bool true) := hJ.ex (j := 56) rfl hr (by kernel_rfl)
        obtain ⟨q0, q1, _, _, _⟩ := HB14.out.grows hJ.grows
        refine hJ.pure_ hT rfl rfl rfl ((wanted_of (k := 56) (b := true) rfl rfl rfl e131).trans (by decide)) (.agg #[.slice A14 X6.d.length c14, .bool X6.whole]) ?_ rfl
        have ek : ∀ v, a'.eval (.const v) = v := fun _ => rfl; have ef : ∀ f, a'.eval (.func f) = .func (.func f) #[] #[] := fun _ => rfl
        generalize a'.eval = ev at *
        simp [execOp, go_sem, q0, q1, e14]
      | 58, _, hr =>
        have e131 : a'.eval (.tmp 131) = (.bool true) := hJ.ex (j := 56) rfl hr (by kernel_rfl)
        refine VJ.arr hJ hT rfl rfl rfl ((wanted_of (k := 56) (b := true) rfl rfl rfl e131).trans (by decide)) #[.string { data := #[113] }] 1 9 ?_ ⟨w'.heap.size, rfl, lrd_at r X6.d cX6 lX6 nX6 (Nat.lt_of_lt_of_le hrE hJ.grows.below.size)⟩
        have ek : ∀ v, a'.eval (.const v) = v := fun _ => rfl; have ef : ∀ f, a'.eval (.func f) = .func (.func f) #[] #[] := fun _ => rfl
        generalize a'.eval = ev at *
        simp [execOp, go_sem, ek]
      | 59, _, hr =>
        have e133 : (SliceOf r X6.d) w' (a'.eval (.tmp 133)) := hJ.has (j := 58) rfl hr (by kernel_rfl)
        have e131 : a'.eval (.tmp 131) = (.bool true) := hJ.ex (j := 56) rfl hr (by kernel_rfl)
        obtain ⟨g, eg, hg⟩ := e133
        refine hJ.call_ hT rfl rfl rfl ((wanted_of (k := 56) (b := true) rfl rfl rfl e131).trans (by decide)) 23 #[.bool true, .slice (some ⟨g, 0, none⟩) X6.d.length X6.d.length] ?_ ?_
        · have hent := entText #[.bool true, .slice (some ⟨g, 0, none⟩) X6.d.length X6.d.length] w'
          have ek : ∀ v, a'.eval (.const v) = v := fun _ => rfl; have ef : ∀ f, a'.eval (.func f) = .func (.func f) #[] #[] := fun _ => rfl
          clear hJ hr hT
          generalize a'.eval = ev at *
          simp [execOp, resolve, invoke, Deferred.ofValue, go_sem, hent, ek, ef, eg]
        · refine (text_any _ _ _ _ _).mono ?_
          rintro e w1 ⟨rfl, hg1⟩
          exact ⟨_, rfl, hg1, ⟨g, rfl, hg.grows hg1⟩⟩
      | 60, _, hr =>
        have e132 : a'.eval (.tmp 132) = (.agg #[.slice A14 X6.d.length c14, .bool X6.whole]) := hJ.ex (j := 57) rfl hr (by kernel_rfl)
        have e134 : (RegOf r X6) w' (a'.eval (.tmp 134)) := hJ.has (j := 59) rfl hr (by kernel_rfl)
        have e131 : a'.eval (.tmp 131) = (.bool true) := hJ.ex (j := 56) rfl hr (by kernel_rfl)
        obtain ⟨g, eg, hg⟩ := e134
        refine hJ.call_ hT rfl rfl rfl ((wanted_of (k := 56) (b := true) rfl rfl rfl e131).trans (by decide)) 16 #[.agg #[.slice A14 X6.d.length c14, .bool X6.whole], .agg #[.slice (some ⟨g, 0, none⟩) X6.d.length X6.d.length, .bool X6.whole]] ?_ ?_
        · have hent := entSame #[.agg #[.slice A14 X6.d.length c14, .bool X6.whole], .agg #[.slice (some ⟨g, 0, none⟩) X6.d.length X6.d.length, .bool X6.whole]] w'
          have ek : ∀ v, a'.eval (.const v) = v := fun _ => rfl; have ef : ∀ f, a'.eval (.func f) = .func (.func f) #[] #[] := fun _ => rfl
          clear hJ hr hT
          generalize a'.eval = ev at *
          simp [execOp, resolve, invoke, Deferred.ofValue, go_sem, hent, ef, eg, e132]
        · refine (same_lit X6 _ _ _ _ _ _ _ _ _ (HB14.out.grows hJ.grows).rd hg rfl rfl rfl rfl lX6).mono ?_
          rintro e w1 ⟨rfl, hg1⟩
          exact ⟨_, rfl, hg1, rfl⟩
      | 61, _, hr =>
        have e131 : a'.eval (.tmp 131) = (.bool true) := hJ.ex (j := 56) rfl hr (by kernel_rfl)
        have e135 : a'.eval (.tmp 135) = (.bool true) := hJ.ex (j := 60) rfl hr (by kernel_rfl)
        refine hJ.pure_ hT rfl rfl rfl rfl (.bool true) ?_ rfl
        have ek : ∀ v, a'.eval (.const v) = v := fun _ => rfl; have ef : ∀ f, a'.eval (.func f) = .func (.func f) #[] #[] := fun _ => rfl
        generalize a'.eval = ev at *
        simp [execOp, go_sem, ek, e131, e135]
      | 62, _, hr =>
        have e136 : a'.eval (.tmp 136) = (.bool true) := hJ.ex (j := 61) rfl hr (by kernel_rfl)
        refine hJ.pure_ hT rfl rfl rfl rfl (.bool true) ?_ rfl
        have ek : ∀ v, a'.eval (.const v) = v := fun _ => rfl; have ef : ∀ f, a'.eval (.func f) = .func (.func f) #[] #[] := fun _ => rfl
        generalize a'.eval = ev at *
        simp [execOp, go_sem, e136]
      | 63, _, hr =>
        have e17 : a'.eval (.tmp 17) = (.int .i64 0) := hJ.old 17 rfl (by simp)
        have e137 : a'.eval (.tmp 137) = (.bool true) := hJ.ex (j := 62) rfl hr (by kernel_rfl)
        refine hJ.pure_ hT rfl rfl rfl ((wanted_of (k := 62) (b := true) rfl rfl rfl e137).trans (by decide)) (.int .i64 0) ?_ rfl
        have ek : ∀ v, a'.eval (.const v) = v := fun _ => rfl; have ef : ∀ f, a'.eval (.func f) = .func (.func f) #[] #[] := fun _ => rfl
        generalize a'.eval = ev at *
        simp [execOp, go_sem, e17]
      | 64, _, hr =>
        have e138 : a'.eval (.tmp 138) = (.int .i64 0) := hJ.ex (j := 63) rfl hr (by kernel_rfl)
        have e137 : a'.eval (.tmp 137) = (.bool true) := hJ.ex (j := 62) rfl hr (by kernel_rfl)
        refine hJ.pure_ hT rfl rfl rfl ((wanted_of (k := 62) (b := true) rfl rfl rfl e137).trans (by decide)) (.bool true) ?_ rfl
        have ek : ∀ v, a'.eval (.const v) = v := fun _ => rfl; have ef : ∀ f, a'.eval (.func f) = .func (.func f) #[] #[] := fun _ => rfl
        generalize a'.eval = ev at *
        simp [execOp, go_sem, ek, e138]
      | 65, _, hr =>
        have e137 : a'.eval (.tmp 137) = (.bool true) := hJ.ex (j := 62) rfl hr (by kernel_rfl)
        have e139 : a'.eval (.tmp 139) = (.bool true) := hJ.ex (j := 64) rfl hr (by kernel_rfl)
        refine hJ.pure_ hT rfl rfl rfl rfl (.bool true) ?_ rfl
        have ek : ∀ v, a'.eval (.const v) = v := fun _ => rfl; have ef : ∀ f, a'.eval (.func f) = .func (.func f) #[] #[] := fun _ => rfl
        generalize a'.eval = ev at *
        simp [execOp, go_sem, ek, e137, e139]
      | 66, _, hr =>
        have e140 : a'.eval (.tmp 140) = (.bool true) := hJ.ex (j := 65) rfl hr (by kernel_rfl)
        refine hJ.pure_ hT rfl rfl rfl rfl (.bool true) ?_ rfl
        have ek : ∀ v, a'.eval (.const v) = v := fun _ => rfl; have ef : ∀ f, a'.eval (.func f) = .func (.func f) #[] #[] := fun _ => rfl
        generalize a'.eval = ev at *
        simp [execOp, go_sem, e140]
      | 67, _, hr =>
        have e16 : a'.eval (.tmp 16) = (.pointer (some ⟨w7.heap.size + m14.bs.size + 1 + m16.bs.size, 0, none⟩)) := hJ.old 16 rfl (by simp)
        have e141 : a'.eval (.tmp 141) = (.bool true) := hJ.ex (j := 66) rfl hr (by kernel_rfl)
        obtain ⟨q0, q1, _, _, _⟩ := HB16.out.grows hJ.grows
        refine hJ.pure_ hT rfl rfl rfl ((wanted_of (k := 66) (b := true) rfl rfl rfl e141).trans (by decide)) (.agg #[.slice A16 X5.d.length c16, .bool X5.whole]) ?_ rfl
        have ek : ∀ v, a'.eval (.const v) = v := fun _ => rfl; have ef : ∀ f, a'.eval (.func f) = .func (.func f) #[] #[] := fun _ => rfl
        generalize a'.eval = ev at *
        simp [execOp, go_sem, q0, q1, e16]
      | 68, _, hr =>
        have e141 : a'.eval (.tmp 141) = (.bool true) := hJ.ex (j := 66) rfl hr (by kernel_rfl)
        refine VJ.arr hJ hT rfl rfl rfl ((wanted_of (k := 66) (b := true) rfl rfl rfl e141).trans (by decide)) #[.string { data := #[112] }] 1 9 ?_ ⟨w'.heap.size, rfl, lrd_at r X5.d cX5 lX5 nX5 (Nat.lt_of_lt_of_le hrE hJ.grows.below.size)⟩
        have ek : ∀ v, a'.eval (.const v) = v := fun _ => rfl; have ef : ∀ f, a'.eval (.func f) = .func (.func f) #[] #[] := fun _ => rfl
        generalize a'.eval = ev at *
        simp [execOp, go_sem, ek]
      | 69, _, hr =>
        have e143 : (SliceOf r X5.d) w' (a'.eval (.tmp 143)) := hJ.has (j := 68) rfl hr (by kernel_rfl)
        have e141 : a'.eval (.tmp 141) = (.bool true) := hJ.ex (j := 66) rfl hr (by kernel_rfl)
        obtain ⟨g, eg, hg⟩ := e143
        refine hJ.call_ hT rfl rfl rfl ((wanted_of (k := 66) (b := true) rfl rfl rfl e141).trans (by decide)) 23 #[.bool true, .slice (some ⟨g, 0, none⟩) X5.d.length X5.d.length] ?_ ?_
        · have hent := entText #[.bool true, .slice (some ⟨g, 0, none⟩) X5.d.length X5.d.length] w'
          have ek : ∀ v, a'.eval (.const v) = v := fun _ => rfl; have ef : ∀ f, a'.eval (.func f) = .func (.func f) #[] #[] := fun _ => rfl
          clear hJ hr hT
          generalize a'.eval = ev at *
          simp [execOp, resolve, invoke, Deferred.ofValue, go_sem, hent, ek, ef, eg]
        · refine (text_any _ _ _ _ _).mono ?_
          rintro e w1 ⟨rfl, hg1⟩
          exact ⟨_, rfl, hg1, ⟨g, rfl, hg.grows hg1⟩⟩
      | 70, _, hr =>
        have e142 : a'.eval (.tmp 142) = (.agg #[.slice A16 X5.d.length c16, .bool X5.whole]) := hJ.ex (j := 67) rfl hr (by kernel_rfl)
        have e144 : (RegOf r X5) w' (a'.eval (.tmp 144)) := hJ.has (j := 69) rfl hr (by kernel_rfl)
        have e141 : a'.eval (.tmp 141) = (.bool true) := hJ.ex (j := 66) rfl hr (by kernel_rfl)
        obtain ⟨g, eg, hg⟩ := e144
        refine hJ.call_ hT rfl rfl rfl ((wanted_of (k := 66) (b := true) rfl rfl rfl e141).trans (by decide)) 16 #[.agg #[.slice A16 X5.d.length c16, .bool X5.whole], .agg #[.slice (some ⟨g, 0, none⟩) X5.d.length X5.d.length, .bool X5.whole]] ?_ ?_
        · have hent := entSame #[.agg #[.slice A16 X5.d.length c16, .bool X5.whole], .agg #[.slice (some ⟨g, 0, none⟩) X5.d.length X5.d.length, .bool X5.whole]] w'
          have ek : ∀ v, a'.eval (.const v) = v := fun _ => rfl; have ef : ∀ f, a'.eval (.func f) = .func (.func f) #[] #[] := fun _ => rfl
          clear hJ hr hT
          generalize a'.eval = ev at *
          simp [execOp, resolve, invoke, Deferred.ofValue, go_sem, hent, ef, eg, e142]
        · refine (same_lit X5 _ _ _ _ _ _ _ _ _ (HB16.out.grows hJ.grows).rd hg rfl rfl rfl rfl lX5).mono ?_
          rintro e w1 ⟨rfl, hg1⟩
          exact ⟨_, rfl, hg1, rfl⟩
      | 71, _, hr =>
        have e141 : a'.eval (.tmp 141) = (.bool true) := hJ.ex (j := 66) rfl hr (by kernel_rfl)
        have e145 : a'.eval (.tmp 145) = (.bool true) := hJ.ex (j := 70) rfl hr (by kernel_rfl)
        refine hJ.pure_ hT rfl rfl rfl rfl (.bool true) ?_ rfl
        have ek : ∀ v, a'.eval (.const v) = v := fun _ => rfl; have ef : ∀ f, a'.eval (.func f) = .func (.func f) #[] #[] := fun _ => rfl
        generalize a'.eval = ev at *
        simp [execOp, go_sem, ek, e141, e145]
      | 72, _, hr =>
        have e146 : a'.eval (.tmp 146) = (.bool true) := hJ.ex (j := 71) rfl hr (by kernel_rfl)
        refine hJ.pure_ hT rfl rfl rfl rfl (.bool true) ?_ rfl
        have ek : ∀ v, a'.eval (.const v) = v := fun _ => rfl; have ef : ∀ f, a'.eval (.func f) = .func (.func f) #[] #[] := fun _ => rfl
        generalize a'.eval = ev at *
        simp [execOp, go_sem, e146]
      | 73, _, hr =>
        have e19 : a'.eval (.tmp 19) = (.int .i64 170) := hJ.old 19 rfl (by simp)
        have e147 : a'.eval (.tmp 147) = (.bool true) := hJ.ex (j := 72) rfl hr (by kernel_rfl)
        refine hJ.pure_ hT rfl rfl rfl ((wanted_of (k := 72) (b := true) rfl rfl rfl e147).trans (by decide)) (.int .i64 170) ?_ rfl
        have ek : ∀ v, a'.eval (.const v) = v := fun _ => rfl; have ef : ∀ f, a'.eval (.func f) = .func (.func f) #[] #[] := fun _ => rfl
        generalize a'.eval = ev at *
        simp [execOp, go_sem, e19]
      | 74, _, hr =>
        have e148 : a'.eval (.tmp 148) = (.int .i64 170) := hJ.ex (j := 73) rfl hr (by kernel_rfl)
        have e147 : a'.eval (.tmp 147) = (.bool true) := hJ.ex (j := 72) rfl hr (by kernel_rfl)
        refine hJ.pure_ hT rfl rfl rfl ((wanted_of (k := 72) (b := true) rfl rfl rfl e147).trans (by decide)) (.bool true) ?_ rfl
        have ek : ∀ v, a'.eval (.const v) = v := fun _ => rfl; have ef : ∀ f, a'.eval (.func f) = .func (.func f) #[] #[] := fun _ => rfl
        generalize a'.eval = ev at *
        simp [execOp, go_sem, ek, e148]
      | 75, _, hr =>
        have e147 : a'.eval (.tmp 147) = (.bool true) := hJ.ex (j := 72) rfl hr (by kernel_rfl)
        have e149 : a'.eval (.tmp 149) = (.bool true) := hJ.ex (j := 74) rfl hr (by kernel_rfl)
        refine hJ.pure_ hT rfl rfl rfl rfl (.bool true) ?_ rfl
        have ek : ∀ v, a'.eval (.const v) = v := fun _ => rfl; have ef : ∀ f, a'.eval (.func f) = .func (.func f) #[] #[] := fun _ => rfl
        generalize a'.eval = ev at *
        simp [execOp, go_sem, ek, e147, e149]
      | 76, _, hr =>
        have e150 : a'.eval (.tmp 150) = (.bool true) := hJ.ex (j := 75) rfl hr (by kernel_rfl)
        refine hJ.pure_ hT rfl rfl rfl rfl (.bool true) ?_ rfl
        have ek : ∀ v, a'.eval (.const v) = v := fun _ => rfl; have ef : ∀ f, a'.eval (.func f) = .func (.func f) #[] #[] := fun _ => rfl
        generalize a'.eval = ev at *
        simp [execOp, go_sem, e150]
      | n + 77, hi, _ => exact absurd hi (by omega)
  case fin =>
    intro a' w' _ hdf hg hv ho
    have e0 : a'.eval (.tmp 0) = .bool true := hv 76 0 _ rfl
    have f0 : a'.tmps[0]?.getD undef = .bool true := by simpa [Act.eval] using e0
    clear hv ho e0
    go_wp2_with fail
    exact bodyPost_ret (v := .bool true) (by simp [results, Try.results9, go_sem, f0]) hdf ⟨rfl, HGE.out.trans hg⟩
end Go.Proofs.Ytlhdbaaokgdabaa
