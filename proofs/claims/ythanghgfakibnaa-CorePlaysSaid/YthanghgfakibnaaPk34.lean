/-
  Several texts of the proof: RegsLives, CoreNew, CoreRead.
-/
import Derived.Test.YthanghgfakibnaaPk32
import Derived.Test.YthanghgfakibnaaPk23
import Derived.Test.YthanghgfakibnaaPk33
import Derived.Test.YthanghgfakibnaaPk31
/-
  Registers: the walk of the chapter's own example.
-/
namespace Go.Proofs.Ythanghgfakibnaa
open Go.RowKit

/-- A text in a block of its own. -/
structure BoxAt (ok : Nat → Prop) (r : Nat) (w : World) (b : Nat) (A : Option Addr) (cap : Nat) (x : Rg) : Prop where
  c0 : w.cell? ⟨b, 0, none⟩ = some (.slice A x.d.length cap)
  c1 : w.cell? ⟨b, 1, none⟩ = some (.bool x.whole)
  rd : LRd ok w A cap x.d
  lt : InHeap b w
  ne : ¬ b = r
set_option maxRecDepth 3000 in
theorem BoxAt.chg {ok : Nat → Prop} {r : Nat} {w w' : World} {b : Nat} {A : Option Addr} {cap : Nat} {x : Rg} (h : BoxAt ok r w b A cap x) (hc : Chg (fun b => b = r) w w') (ho : ∀ b, ok b → ¬ b = r) : BoxAt ok r w' b A cap x :=
  ⟨(hc.cell (a := ⟨b, 0, none⟩) h.lt h.ne).trans h.c0, (hc.cell (a := ⟨b, 1, none⟩) h.lt h.ne).trans h.c1, h.rd.chg hc fun b _ hb => ho b hb, Nat.lt_of_lt_of_le h.lt hc.size, h.ne⟩
set_option maxRecDepth 3000 in
theorem BoxAt.grows {ok : Nat → Prop} {r : Nat} {w w' : World} {b : Nat} {A : Option Addr} {cap : Nat} {x : Rg} (h : BoxAt ok r w b A cap x) (hg : Grows w w') : BoxAt ok r w' b A cap x :=
  ⟨((Chg.of_grows (p := fun _ => False) hg).cell (a := ⟨b, 0, none⟩) h.lt (fun h => h)).trans h.c0, ((Chg.of_grows (p := fun _ => False) hg).cell (a := ⟨b, 1, none⟩) h.lt (fun h => h)).trans h.c1, h.rd.grows hg, Nat.lt_of_lt_of_le h.lt hg.below.size, h.ne⟩
set_option maxRecDepth 3000 in
/-- Set, of a text that is written out. -/
theorem set_lit {ok okx : Nat → Prop} (p r : Nat) (S : RS) (c : Int) (k : Nat) (hk : c = k) (A : Option Addr) (n cap : Nat) (b : Bool) (x : Rg) (hn : n = x.d.length) (hb : b = x.whole) (w : World) (h : Regs ok w p r S) (hx : LRd okx w A cap x.d) (hf : x.fits) (hok : ∀ b, w.heap.size ≤ b → ok b) (hnr : ¬ ok r) :
    Calls Try.prog 30 #[.pointer (some ⟨p, 0, none⟩), .int .u8 c, .agg #[.slice A n cap, .bool b]] w (PutOut ok p r (rset S c x) w) := by
  subst hk hn hb
  exact set_any p r S k A cap x w h hx hf hok hnr
set_option maxRecDepth 3000 in
theorem get_lit {ok : Nat → Prop} (p r : Nat) (S : RS) (c : Int) (k : Nat) (hk : c = k) (w : World) (h : Regs ok w p r S) (y : Rg) (e : Int) (hy : rget S c = (y, e)) : Calls Try.prog 31 #[.pointer (some ⟨p, 0, none⟩), .int .u8 c] w (GetOut (y, e) w) := by
  subst hk
  rw [← hy]
  exact get_any p r S k w h
set_option maxRecDepth 3000 in
theorem regs_new (w : World) (ok : Nat → Prop) : Regs ok ((w.alloc (.map #[] 0)).alloc (.cells #[.map (some w.heap.size)] 96)) (w.heap.size + 1) w.heap.size rs0 := by
  refine ⟨by simp [go_sem], ⟨fun _ => none, ⟨#[], 0, ?_, by intro e h; simp at h, Go.MapKept.stamped_empty 0, fun k => rfl⟩, fun k => trivial⟩, rgood0, by omega, by simp⟩
  rw [Below.heap_alloc _ _ _ (by simp)]
  exact heap_alloc_new _ _
def X1 : Rg := ⟨[[111, 110, 101]], true⟩
def X2 : Rg := ⟨[[116, 119, 111]], true⟩
def X12 : Rg := ⟨[[111, 110, 101], [116, 119, 111]], true⟩
def X3 : Rg := ⟨[[120]], false⟩
def X4 : Rg := ⟨[[121], [122]], false⟩
def X34 : Rg := ⟨[[120, 121], [122]], false⟩
def X5 : Rg := ⟨[[112]], true⟩
def X6 : Rg := ⟨[[113]], true⟩
def s1 : RS := (rset rs0 97 X1).1
def s2 : RS := (rset s1 65 X2).1
def s3 : RS := (rset s2 98 X3).1
def s4 : RS := (rset s3 66 X4).1
def s5 : RS := (rpush s4 X5).1
def s6 : RS := (rpush s5 X6).1
set_option maxRecDepth 3000 in
theorem r1 : rset rs0 97 X1 = (s1, 0) := rfl
set_option maxRecDepth 3000 in
theorem r2 : rset s1 65 X2 = (s2, 0) := rfl
set_option maxRecDepth 3000 in
theorem r3 : rset s2 98 X3 = (s3, 0) := rfl
set_option maxRecDepth 3000 in
theorem r4 : rset s3 66 X4 = (s4, 0) := rfl
set_option maxRecDepth 3000 in
theorem r5 : rpush s4 X5 = (s5, 0) := rfl
set_option maxRecDepth 3000 in
theorem r6 : rpush s5 X6 = (s6, 0) := rfl
set_option maxRecDepth 3000 in
theorem g1 : rget s2 97 = (X12, 0) := rfl
set_option maxRecDepth 3000 in
theorem g2 : rget s2 0 = (X2, 0) := rfl
set_option maxRecDepth 3000 in
theorem g3 : rget s4 98 = (X34, 0) := rfl
set_option maxRecDepth 3000 in
theorem g4 : rget s6 49 = (X6, 0) := rfl
set_option maxRecDepth 3000 in
theorem g5 : rget s6 50 = (X5, 0) := rfl
set_option maxRecDepth 3000 in
theorem g6 : rget s6 51 = (rg0, 170) := rfl
set_option maxRecDepth 3000 in
theorem fitsX1 : (X1).fits := ⟨by decide, by decide⟩
set_option maxRecDepth 3000 in
theorem fitsX2 : (X2).fits := ⟨by decide, by decide⟩
set_option maxRecDepth 3000 in
theorem fitsX12 : (X12).fits := ⟨by decide, by decide⟩
set_option maxRecDepth 3000 in
theorem fitsX3 : (X3).fits := ⟨by decide, by decide⟩
set_option maxRecDepth 3000 in
theorem fitsX4 : (X4).fits := ⟨by decide, by decide⟩
set_option maxRecDepth 3000 in
theorem fitsX34 : (X34).fits := ⟨by decide, by decide⟩
set_option maxRecDepth 3000 in
theorem fitsX5 : (X5).fits := ⟨by decide, by decide⟩
set_option maxRecDepth 3000 in
theorem fitsX6 : (X6).fits := ⟨by decide, by decide⟩
set_option maxRecDepth 3000 in
theorem cX1 : (#[.string { data := #[111, 110, 101] }] : Array Value).toList = lv X1.d := rfl
set_option maxRecDepth 3000 in
theorem nX1 : 1 = X1.d.length := rfl
set_option maxRecDepth 3000 in
theorem bX1 : true = X1.whole := rfl
set_option maxRecDepth 3000 in
theorem lX1 : X1.d.length ≤ 1000 := by decide
set_option maxRecDepth 3000 in
theorem cX2 : (#[.string { data := #[116, 119, 111] }] : Array Value).toList = lv X2.d := rfl
set_option maxRecDepth 3000 in
theorem nX2 : 1 = X2.d.length := rfl
set_option maxRecDepth 3000 in
theorem bX2 : true = X2.whole := rfl
set_option maxRecDepth 3000 in
theorem lX2 : X2.d.length ≤ 1000 := by decide
set_option maxRecDepth 3000 in
theorem cX12 : (#[.string { data := #[111, 110, 101] }, .string { data := #[116, 119, 111] }] : Array Value).toList = lv X12.d := rfl
set_option maxRecDepth 3000 in
theorem nX12 : 2 = X12.d.length := rfl
set_option maxRecDepth 3000 in
theorem bX12 : true = X12.whole := rfl
set_option maxRecDepth 3000 in
theorem lX12 : X12.d.length ≤ 1000 := by decide
set_option maxRecDepth 3000 in
theorem cX3 : (#[.string { data := #[120] }] : Array Value).toList = lv X3.d := rfl
set_option maxRecDepth 3000 in
theorem nX3 : 1 = X3.d.length := rfl
set_option maxRecDepth 3000 in
theorem bX3 : false = X3.whole := rfl
set_option maxRecDepth 3000 in
theorem lX3 : X3.d.length ≤ 1000 := by decide
set_option maxRecDepth 3000 in
theorem cX4 : (#[.string { data := #[121] }, .string { data := #[122] }] : Array Value).toList = lv X4.d := rfl
set_option maxRecDepth 3000 in
theorem nX4 : 2 = X4.d.length := rfl
set_option maxRecDepth 3000 in
theorem bX4 : false = X4.whole := rfl
set_option maxRecDepth 3000 in
theorem lX4 : X4.d.length ≤ 1000 := by decide
set_option maxRecDepth 3000 in
theorem cX34 : (#[.string { data := #[120, 121] }, .string { data := #[122] }] : Array Value).toList = lv X34.d := rfl
set_option maxRecDepth 3000 in
theorem nX34 : 2 = X34.d.length := rfl
set_option maxRecDepth 3000 in
theorem bX34 : false = X34.whole := rfl
set_option maxRecDepth 3000 in
theorem lX34 : X34.d.length ≤ 1000 := by decide
set_option maxRecDepth 3000 in
theorem cX5 : (#[.string { data := #[112] }] : Array Value).toList = lv X5.d := rfl
set_option maxRecDepth 3000 in
theorem nX5 : 1 = X5.d.length := rfl
set_option maxRecDepth 3000 in
theorem bX5 : true = X5.whole := rfl
set_option maxRecDepth 3000 in
theorem lX5 : X5.d.length ≤ 1000 := by decide
set_option maxRecDepth 3000 in
theorem cX6 : (#[.string { data := #[113] }] : Array Value).toList = lv X6.d := rfl
set_option maxRecDepth 3000 in
theorem nX6 : 1 = X6.d.length := rfl
set_option maxRecDepth 3000 in
theorem bX6 : true = X6.whole := rfl
set_option maxRecDepth 3000 in
theorem lX6 : X6.d.length ≤ 1000 := by decide
set_option maxRecDepth 3000 in
theorem VJ.arr {P : Program} {w0 : World} {a0 : Act} {T : List (Nat × Spec)} {done : Array Bool} {a : Act} {w : World} {ops : Array Oper} {Q : Exit → Act → World → Prop} {i d : Nat} {S : Spec} {o : Oper}
    (hJ : VJ w0 a0 T done a w) (hT : Tab a0 T) (hi : T[i]? = some (d, S)) (ho : ops[i]? = some o) (hd : o.dst = some d) (hw : Region.wanted o (yielded ops a.tmps) = true) (cs : Array Value) (n : Nat) (t : TypeId)
    (hrun : (execOp a.eval o).run P w = .ok (.value (.slice (some ⟨w.heap.size, 0, none⟩) n n)) (w.alloc (.cells cs t))) (hS : S (w.alloc (.cells cs t)) (.slice (some ⟨w.heap.size, 0, none⟩) n n)) : wpOp P ops Q i (VJ w0 a0 T (done.setIfInBounds i true)) a w := by
  refine hJ.step hT hi ho hd hw ?_
  unfold Oper.wp
  rw [hrun, Oper.upon_value, hd]
  exact ⟨_, rfl, (Grows.refl _).alloc _, hS⟩
/-- Lines that were laid in a block of their own. -/
def SliceOf (r : Nat) (d : List (List UInt8)) : Spec := fun w v => ∃ g, v = .slice (some ⟨g, 0, none⟩) d.length d.length ∧ LRd (fun b => ¬ b = r) w (some ⟨g, 0, none⟩) d.length d
def RegOf (r : Nat) (x : Rg) : Spec := fun w v => ∃ g, v = .agg #[.slice (some ⟨g, 0, none⟩) x.d.length x.d.length, .bool x.whole] ∧ LRd (fun b => ¬ b = r) w (some ⟨g, 0, none⟩) x.d.length x.d
set_option maxRecDepth 3000 in
theorem SliceOf.stays (r : Nat) (d : List (List UInt8)) : Stays (SliceOf r d) := fun _ _ _ hg ⟨g, e, h⟩ => ⟨g, e, h.grows hg⟩
set_option maxRecDepth 3000 in
theorem RegOf.stays (r : Nat) (x : Rg) : Stays (RegOf r x) := fun _ _ _ hg ⟨g, e, h⟩ => ⟨g, e, h.grows hg⟩
set_option maxRecDepth 3000 in
theorem lrd_at (r : Nat) (d : List (List UInt8)) {w : World} {cs : Array Value} {t : TypeId} {n : Nat} (hcs : cs.toList = lv d) (hd : d.length ≤ 1000) (hn : n = d.length) (hr : r < w.heap.size) : LRd (fun b => ¬ b = r) (w.alloc (.cells cs t)) (some ⟨w.heap.size, 0, none⟩) d.length d := by
  have hsz : cs.size = d.length := by rw [← Array.length_toList, hcs, lv_length]
  exact ⟨hcs ▸ rd_new w cs t d.length _ hsz rfl, (fun h => by cases h), Nat.le_refl _, by omega, fun _ a e => by cases e; intro e; simp at e; omega⟩
set_option maxRecDepth 3000 in
theorem entSame : Enters Try.prog 32 := enters_of Try.func32 (by kernel_rfl) rfl
set_option maxRecDepth 3000 in
theorem same_lit {ok ok2 : Nat → Prop} (a : Rg) (A B : Option Addr) (na nb ca cb : Nat) (ba bb : Bool) (w : World) (ha : LRd ok w A ca a.d) (hb : LRd ok2 w B cb a.d) (h1 : na = a.d.length) (h2 : nb = a.d.length) (h3 : ba = a.whole) (h4 : bb = a.whole) (hl : a.d.length ≤ 1000) : Calls Try.prog 32 #[.agg #[.slice A na ca, .bool ba], .agg #[.slice B nb cb, .bool bb]] w fun e w1 => e = .returned (.bool true) ∧ Grows w w1 := by
  subst h1 h2 h3 h4
  have := sameReg_any A B ca cb a a w ha hb (by omega) (by omega)
  rwa [rsame_self] at this
set_option maxRecDepth 3000 in
theorem okn {r n : Nat} (h : r < n) : ∀ b, n ≤ b → (fun b => ¬ b = r) b := fun b hb e => by omega
set_option maxRecDepth 3000 in
theorem nnr (r : Nat) : ¬ (fun b => ¬ b = r) r := fun h => h rfl
set_option maxRecDepth 3000 in
theorem idr (r : Nat) : ∀ b, (fun b => ¬ b = r) b → ¬ b = r := fun _ h => h
end Go.Proofs.Ythanghgfakibnaa

/-
  Core: New: the walk.
-/
namespace Go.Proofs.Ythanghgfakibnaa
open Go.RowKit

def bldSt (x : Array (Nat × Value)) : Sem Value := Instr.build 53 x
set_option maxRecDepth 3000 in
theorem bldSt_eq (x : Array (Nat × Value)) : Instr.build 53 x = bldSt x := rfl
set_option maxRecDepth 3000 in
theorem bldSt_run (w : World) (p : Option Addr) (n : Int) : (bldSt #[(0, .pointer p), (1, .int .i64 n)]).run Try.prog w = .ok (.agg (stC (.pointer p) n zeros)) w := by kernel_rfl
def bldCo (x : Array (Nat × Value)) : Sem Value := Instr.build 56 x
set_option maxRecDepth 3000 in
theorem bldCo_eq (x : Array (Nat × Value)) : Instr.build 56 x = bldCo x := rfl
set_option maxRecDepth 3000 in
theorem bldCo_run (w : World) (p q : Option Addr) (n : Int) : (bldCo #[(0, .agg (stC (.pointer p) n zeros)), (2, .pointer q)]).run Try.prog w = .ok (.agg (coC (.pointer p) n zeros (.string ⟨#[]⟩) (.pointer q) (.bool false) (.pointer none) (.pointer none) (.pointer none) (.slice none 0 0))) w := by kernel_rfl
attribute [local go_sem ↓] bldSt_eq bldCo_eq
attribute [local go_sem] bldSt_run bldCo_run
set_option maxRecDepth 3000 in
set_option maxHeartbeats 2000000 in
theorem coNew_any (A : Option Addr) (cap : Nat) (l : List (List UInt8)) (w : World) (hl : Came w A cap l) (h0 : lcheckV l = 0) (hd : l.length ≤ 1000000) (X : Nat → Prop) (hX : ∀ b, X b → b < w.heap.size) :
    Calls Try.prog 27 #[.slice A l.length cap] w fun e w' => ∃ g ok K, e = .returned (.tuple #[.pointer (some ⟨g, 0, none⟩), .int .i64 0]) ∧ CoreAt kI 0 ok K w' g (coNew l) ∧ (∀ b, X b → ¬ ok b) ∧ (∀ b, K b → w.heap.size ≤ b) ∧ Grows w w' := by
  have HX := Lib.hid hX
  clear hX
  have HL := Lib.hid hl
  have H0 := Lib.hid h0
  have h2 : l.length ≤ 2000 := (lcheckV_good.1 h0).1
  clear hl h0
  go_enter Try.func27, Try.ntmps27
  go_wp2_with fail
  (with_reducible refine (new_ptr A l.length cap l _ rfl HL.out.rd hd HL.out.nil HL.out.each H0.out).mono ?_)
  rintro e w1 ⟨T, rfl, hT, hTL, hg, hTu, -⟩
  have HT := Lib.hid hT
  have HTL := Lib.hid hTL
  have HG := Lib.hid hg
  have HTu := Lib.hid hTu
  clear hT hTL hg hTu
  go_wp2_with fail
  (with_reducible refine (new_any _).mono ?_)
  rintro e w2 ⟨rfl, hw2⟩
  have hR : Hid (Regs (fun b => (¬ b = w1.heap.size + 2 ∧ ¬ b = w1.heap.size) ∧ ¬ X b) w2 (w1.heap.size + 1) w1.heap.size rs0) := Lib.hid (by rw [hw2]; exact regs_new w1 _)
  have hs2 : Hid (w2.heap.size = w1.heap.size + 2) := Lib.hid (by rw [hw2]; simp)
  have hG2 : Hid (Grows w1 w2) := Lib.hid (by rw [hw2]; repeat' first | exact Grows.refl _ | refine Grows.alloc ?_ _)
  clear hw2
  go_wp2_with fail
  go_ret2
  have hs1 := HG.out.below.size
  have hs := hs2.out
  have hgr : Grows w2 (w2.alloc (.cells (coC (.pointer (some ⟨T.g, 0, none⟩)) l.length zeros (.string ⟨#[]⟩) (.pointer (some ⟨w1.heap.size + 1, 0, none⟩)) (.bool false) (.pointer none) (.pointer none) (.pointer none) (.slice none 0 0)) 56)) := (Grows.refl _).alloc _
  have hTlt : ∀ b, T.uses b → b < w1.heap.size := fun b hb => HT.out.lt b hb
  have hXlt : ∀ b, X b → b < w.heap.size := HX.out
  have nX : ∀ b, w.heap.size ≤ b → ¬ X b := fun b h1 h2 => by have := hXlt b h2; omega
  have hM : CoreM kI 0 (fun b => (¬ b = w1.heap.size + 2 ∧ ¬ b = w1.heap.size) ∧ ¬ X b) (fun b => b = w1.heap.size + 2 ∨ b = w1.heap.size) (w2.alloc (.cells (coC (.pointer (some ⟨T.g, 0, none⟩)) l.length zeros (.string ⟨#[]⟩) (.pointer (some ⟨w1.heap.size + 1, 0, none⟩)) (.bool false) (.pointer none) (.pointer none) (.pointer none) (.slice none 0 0)) 56)) w2.heap.size (coNew l)
      (.pointer (some ⟨T.g, 0, none⟩)) (.pointer (some ⟨w1.heap.size + 1, 0, none⟩)) (.pointer none) (.pointer none) (.pointer none) (.slice none 0 0) w1.heap.size w1.heap.size [] := by
    refine ⟨blk_alloc_at _ _ _ _ rfl, ⟨T, rfl, HT.out.grows (hG2.out.trans hgr), HTL.out, fun b hb => ⟨⟨by have := hTlt b hb; omega, by have := hTlt b hb; omega⟩, nX b (HTu.out b hb)⟩⟩, ⟨_, rfl, hR.out.grows hgr, ⟨by omega, by omega⟩, nX _ (by omega)⟩, rfl, ⟨rfl, rfl⟩, World.ownsRow_nil _ _ _ _, rfl, (fun s hs => by cases hs), (fun b e => by cases e), .inl hs, .inr rfl, by omega, ?_, ?_, (fun _ _ => Nat.zero_le _), (fun _ h => absurd h (Nat.not_lt_zero _)), coNew_good h2⟩
    · rintro b (rfl | rfl) e
      · exact e.1.1 rfl
      · exact e.1.2 rfl
    · intro b hb
      simp at hb
      exact ⟨⟨by omega, by omega⟩, nX b (by omega)⟩
  exact ⟨w2.heap.size, _, _, rfl, hM.at_, (fun b hb e => e.2 hb), (by rintro b (rfl | rfl) <;> omega), (HG.out.trans hG2.out).trans hgr⟩
set_option maxRecDepth 3000 in
set_option maxHeartbeats 1000000 in
theorem coNew_no (A : Option Addr) (cap : Nat) (l : List (List UInt8)) (w : World) (hl : Came w A cap l) (h0 : lcheckV l ≠ 0) (hd : l.length ≤ 1000000) :
    Calls Try.prog 27 #[.slice A l.length cap] w fun e w' => e = .returned (.tuple #[.pointer none, .int .i64 2]) ∧ Grows w w' := by
  have HL := Lib.hid hl
  have H0 := Lib.hid h0
  clear hl h0
  go_enter Try.func27, Try.ntmps27
  go_wp2_with fail
  (with_reducible refine (new_no A cap l _ HL.out.rd hd HL.out.each H0.out).mono ?_)
  rintro e w1 ⟨rfl, hw⟩
  have hw := hw.symm
  subst hw
  go_wp2_with fail
  go_ret2
  exact ⟨rfl, Grows.refl _⟩
end Go.Proofs.Ythanghgfakibnaa

/-
  Core: the contracts once more, said of a buffer in memory, with what they answer given.
-/
namespace Go.Proofs.Ythanghgfakibnaa
open Go.RowKit

section
variable {base : Nat} {ok K okI : Nat → Prop} {w : World} {g r r2 : Nat} {c : CoV} {tv rv uv wv hv dv : Value} {D : List Spx}
set_option maxRecDepth 3000 in
theorem m_cur (h : CoreM kI base ok K w g c tv rv uv wv hv dv r r2 D) (n : Int) (hn : c.s.cur = n) : Calls Try.prog 17 #[.pointer (some ⟨g, 0, none⟩)] w fun e w' => e = .returned (.int .i64 n) ∧ w = w' := by
  subst hn
  obtain ⟨T, rfl, -⟩ := h.lines
  obtain ⟨q0, q1, -⟩ := co_cells h.cells h.good.s.many
  exact coCur g T.g _ w q0 q1
set_option maxRecDepth 3000 in
theorem m_n (h : CoreM kI base ok K w g c tv rv uv wv hv dv r r2 D) (n : Int) (hn : (c.s.L.length : Int) = n) : Calls Try.prog 14 #[.pointer (some ⟨g, 0, none⟩)] w fun e w' => e = .returned (.int .i64 n) ∧ w = w' := by
  subst hn
  obtain ⟨T, rfl, hT, hL, -⟩ := h.lines
  obtain ⟨q0, -⟩ := co_cells h.cells h.good.s.many
  rw [← hL]
  exact coN g T w q0 hT
set_option maxRecDepth 3000 in
theorem m_lines (h : CoreM kI base ok K w g c tv rv uv wv hv dv r r2 D) (n : Int) (hn : n = c.s.L.length) : Calls Try.prog 16 #[.pointer (some ⟨g, 0, none⟩), .int .i64 1, .int .i64 n] w (NewL2 c.s.L w) := by
  obtain ⟨T, rfl, hT, hL, -⟩ := h.lines
  obtain ⟨q0, -⟩ := co_cells h.cells h.good.s.many
  rw [← hL] at hn ⊢
  exact coLines g T w q0 hT n hn
set_option maxRecDepth 3000 in
theorem m_dirty (h : CoreM kI base ok K w g c tv rv uv wv hv dv r r2 D) (b : Bool) (hb : c.dirty = b) : Calls Try.prog 21 #[.pointer (some ⟨g, 0, none⟩)] w fun e w' => e = .returned (.bool b) ∧ w = w' := by
  subst hb
  obtain ⟨T, rfl, -⟩ := h.lines
  obtain ⟨q0, -, -, -, q30, -⟩ := co_cells h.cells h.good.s.many
  exact coDirty g T.g _ w q0 q30
set_option maxRecDepth 3000 in
theorem m_begin (h : CoreM kI base ok K w g c tv rv uv wv hv dv r r2 D) (n : Int) (hn : (coBegin c).2 = n) : Calls Try.prog 22 #[.pointer (some ⟨g, 0, none⟩)] w fun e w' => e = .returned (.int .i64 n) ∧ Moved kI base ok K g w (coBegin c).1 w' := by
  subst hn
  exact begin_any h
set_option maxRecDepth 3000 in
theorem m_splice (h : CoreM kI base ok K w g c tv rv uv wv hv dv r r2 D) (at_ del : Int) (I : Option Addr) (m ci : Nat) (ins : List (List UInt8)) (hm : m = ins.length) (ha : I64 at_) (hd : I64 del) (hI : LRd okI w I ci ins) (hl : ∀ s ∈ ins, s.length ≤ 9223372036854775807) (hi : ins.length ≤ 1000000) (hdn : c.did.length ≤ 1000000) (n : Int) (hn : (coSplice c ⟨at_, del, ins⟩).2 = n) :
    Calls Try.prog 23 #[.pointer (some ⟨g, 0, none⟩), .agg #[.int .i64 at_, .int .i64 del, .slice I m ci]] w fun e w' => e = .returned (.int .i64 n) ∧ Moved kI base ok K g w (coSplice c ⟨at_, del, ins⟩).1 w' := by
  subst hn hm
  exact coSplice_any h at_ del I ci ins ha hd hI hl hi hdn
set_option maxRecDepth 3000 in
theorem map_one {D : List Spx} {x : SpV} (h : D.map Spx.v = [x]) : ∃ d, D = [d] ∧ d.v = x := by
  match D, h with
  | [d], h => exact ⟨d, rfl, by simpa using h⟩
set_option maxRecDepth 3000 in
/-- What a step leaves: the buffer's cells named. -/
theorem Moved.parts {w w' : World} {g : Nat} (h : Moved kI base ok K g w c w') {W : World} (hW : Grows W w) (hlow : ∀ b, K b → W.heap.size ≤ b) : ∃ ok' K' tv rv uv wv hv dv r r2 D, CoreM kI base ok' K' w' g c tv rv uv wv hv dv r r2 D ∧ Grows W w' ∧ ∀ b, K' b → W.heap.size ≤ b := by
  obtain ⟨ok', K', ⟨tv, rv, uv, wv, hv, dv, r, r2, D, hM⟩, hc, -, -, hK⟩ := h
  refine ⟨ok', K', tv, rv, uv, wv, hv, dv, r, r2, D, hM, Chg.grows (n := 0) hW hc hlow, fun b hb => ?_⟩
  rcases hK b hb with h1 | h1
  · exact hlow b h1
  · exact Nat.le_trans hW.below.size h1
end
end Go.Proofs.Ythanghgfakibnaa
