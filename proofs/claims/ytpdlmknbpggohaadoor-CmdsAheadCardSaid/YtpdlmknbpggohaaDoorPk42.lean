/-
  Commands: a command line read, walked. (Printed by cmdl.py.)
-/
import Derived.Test.YtpdlmknbpggohaaDoorPk41
namespace Go.Proofs.YtpdlmknbpggohaaDoor
open Go.RowKit

attribute [local go_sem] tx_bt tx_from
abbrev nilV : Value := .slice none 0 0
/-- No command. -/
def cmZ : Array Value := cmC nilV nilV (cm0 [] [])
/-- What Parse leaves. -/
def CmdPost (r : Except Nat Cm) (e : Ending) (w' : World) : Prop :=
  match r with
  | .error n => e = .returned (.tuple #[.agg cmZ, .int .i64 n])
  | .ok x => ∃ (A : Option Addr) (ca : Nat) (B : Option Addr) (cb : Nat), e = .returned (.tuple #[.agg (cmC (.slice A x.list.length ca) (.slice B x.semi.length cb) x), .int .i64 0]) ∧ Rd w' 4 A x.list.length (adrs x.list) ∧ Rd w' 1 B x.semi.length (x.semi.map Value.bool) ∧ x.list.length ≤ 1001 ∧ x.semi.length ≤ 1001
set_option maxRecDepth 3000 in
theorem cmC_one (A B : Option Addr) (n ca m cb : Nat) (x : Cm) : OneCells (cmC (.slice A n ca) (.slice B m cb) x) := by simp [OneCells, Value.oneCell']
set_option maxRecDepth 3000 in
theorem cmZ_one : OneCells cmZ := cmC_one _ _ _ _ _ _ _
set_option maxRecDepth 3000 in
theorem cmZ_size : cmZ.size = 15 := rfl
def bldZ : Sem Value := Instr.build 30 #[]
set_option maxRecDepth 3000 in
theorem bldZ_eq : Instr.build 30 #[] = bldZ := rfl
set_option maxRecDepth 3000 in
theorem bldZ_run (w : World) : bldZ.run Tryd.prog w = .ok (.agg cmZ) w := by kernel_rfl
attribute [local go_sem ↓] bldZ_eq
attribute [local go_sem] bldZ_run cmZ_size cmZ_one
set_option maxRecDepth 3000 in
theorem cmd_none {l : List UInt8} (h : rangeL l = none) : cmdL l = .error 200 := by unfold cmdL; rw [h]
set_option maxRecDepth 3000 in
theorem cmd_some {l : List UInt8} {us : List Adr} {ss : List Bool} {t : List UInt8} (h : rangeL l = some (us, ss, t)) : cmdL l = restL (cm0 us ss) t := by unfold cmdL; rw [h]
set_option maxRecDepth 3000 in
theorem rest_nil {x : Cm} {l : List UInt8} (h : skipL l = []) : restL x l = .ok x := by unfold restL; rw [h]
set_option maxRecDepth 3000 in
theorem rest_ya {x : Cm} {l s : List UInt8} {c : UInt8} (h : skipL l = c :: s) (h1 : ahead [121, 97] (c :: s) = true) : restL x l = letL { x with name := 89 } false (s.drop 1) := by unfold restL; rw [h]; simp only []; rw [if_pos h1]
set_option maxRecDepth 3000 in
theorem rest_pu {x : Cm} {l s : List UInt8} {c : UInt8} (h : skipL l = c :: s) (h1 : ahead [121, 97] (c :: s) = false) (h2 : ahead [112, 117] (c :: s) = true) : restL x l = letL { x with name := 80 } false (s.drop 1) := by unfold restL; rw [h]; simp only []; rw [if_neg (by rw [h1]; decide), if_pos h2]
set_option maxRecDepth 3000 in
theorem rest_named {x : Cm} {l s : List UInt8} {c : UInt8} (h : skipL l = c :: s) (h1 : ahead [121, 97] (c :: s) = false) (h2 : ahead [112, 117] (c :: s) = false) : restL x l = namedL x c.toNat s := by unfold restL; rw [h]; simp only []; rw [if_neg (by rw [h1]; decide), if_neg (by rw [h2]; decide)]
/-! ### an error is one -/
def Err (n : Nat) : Prop := n = 90 ∨ n = 110 ∨ n = 200 ∨ n = 210 ∨ n = 211
set_option maxRecDepth 3000 in
theorem suf_err {x : Cm} {s : List UInt8} {n : Nat} (h : sufL x s = .error n) : Err n := by
  unfold sufL at h
  split at h
  · cases h
  · split at h
    · cases h
    · injection h with h; subst h; simp [Err]
  · injection h with h; subst h; simp [Err]
set_option maxRecDepth 3000 in
theorem flag_err (k : Nat) : ∀ {said : Bool} {x : Cm} {s : List UInt8} {n : Nat}, flagL k said x s = .error n → Err n := by
  induction k with
  | zero => intro said x s n h; injection h with h; subst h; simp [Err]
  | succ k ih =>
    intro said x s n h
    cases s with
    | nil => cases h
    | cons c l =>
      unfold flagL at h
      split at h
      · exact ih h
      · split at h
        · exact ih h
        · split at h
          · exact ih h
          · injection h with h; subst h; simp [Err]
set_option maxRecDepth 3000 in
theorem let_err {x : Cm} {must : Bool} {s : List UInt8} {n : Nat} (h : letL x must s = .error n) : Err n := by
  unfold letL at h
  split at h
  · split at h
    · injection h with h; subst h; simp [Err]
    · cases h
  · split at h
    · exact suf_err h
    · injection h with h; subst h; simp [Err]
set_option maxRecDepth 3000 in
theorem subst_err {x : Cm} {s : List UInt8} {n : Nat} (h : substL x s = .error n) : Err n := by
  unfold substL at h
  split at h
  · rename_i e he
    injection h with h; subst h; rw [pat_err he]; simp [Err]
  · split at h
    · injection h with h; subst h; simp [Err]
    · split at h
      · injection h with h; subst h; simp [Err]
      · split at h
        · injection h with h; subst h; simp [Err]
        · simp only [] at h
          split at h
          · cases h
          · exact flag_err _ h
set_option maxRecDepth 3000 in
theorem named_err {x : Cm} {c : Nat} {s : List UInt8} {n : Nat} (h : namedL x c s = .error n) : Err n := by
  unfold namedL at h
  simp only [] at h
  split at h
  · exact suf_err h
  split at h
  · exact let_err h
  split at h
  · unfold destL at h
    split at h
    · injection h with h; subst h; simp [Err]
    · exact suf_err h
  split at h
  · exact subst_err h
  split at h
  · unfold globL at h
    split at h
    · rename_i e he
      injection h with h; subst h; rw [pat_err he]; simp [Err]
    · cases h
  split at h
  · unfold countL at h
    split at h
    · cases h
    · injection h with h; subst h; simp [Err]
  split at h
  · split at h
    · cases h
    · injection h with h; subst h; simp [Err]
  split at h
  · split at h
    · rename_i e he
      injection h with h; subst h
      unfold asksL at he
      split at he
      · cases he
      · split at he
        · injection he with he; subst he; simp [Err]
        · split at he
          · injection he with he; subst he; simp [Err]
          · cases he
    · cases h
  · injection h with h; subst h; simp [Err]
set_option maxRecDepth 3000 in
theorem err_ne {n : Nat} (h : Err n) : ((n : Int) != 0) = true := by unfold Err at h; simp; omega
set_option maxRecDepth 3000 in
theorem Sane.chgX {w w' : World} {q : Nat → Prop} (h : Sane w) (hc : Chg q w w') (hq : ∀ b, b < w.heap.size → ¬ q b) : Sane w' := by
  obtain ⟨m, hm⟩ := h
  have hb := World.block_lt_of_cell? w _ hm
  exact ⟨m, (hc.cell hb (hq _ hb)).trans hm⟩
/-- .. when it is none. -/
structure PsLate (w wr : World) : Prop where
  res : blk wr w.heap.size = cmZ
  grown : Grows w wr
set_option maxRecDepth 3000 in
theorem setCell_same {w : World} {g : Nat} {c : Array Value} {v : Value} (h : blk w g = c) (hc : 0 < c.size) (i : Nat) (hv : c[i]? = some v) : w.setCell ⟨g, i, none⟩ v = w := by
  rw [Blk.set h hc, show c.setIfInBounds i v = c by
    apply Array.ext_getElem?
    intro j
    rw [Array.getElem?_setIfInBounds]
    split
    · rename_i e
      subst e
      split
      · exact hv.symm
      · rename_i h2
        rw [Array.getElem?_eq_none (by omega)] at hv
        cases hv
    · rfl]
  exact Blk.same h hc
set_option maxRecDepth 3000 in
theorem PsLate.done {w wr : World} (h : PsLate w wr) {C : Array Value} : Grows w (setBlk wr w.heap.size C) :=
  Chg.grows (n := 0) h.grown (chg_row (g := w.heap.size) (c := C)) fun b e => Nat.le_of_eq e.symm
/-- How things stand at a command that is being read: the result's block, the command's. -/
structure PsAt (w w1 wr : World) (xb : Nat) (lv sv : Value) (x : Cm) : Prop where
  res : blk wr w.heap.size = cmZ
  cm : CmAt wr xb lv sv x
  grown : Grows w wr
  chg : Chg (fun b => b = xb) w1 wr
  lt : w1.heap.size ≤ xb
  lo : w.heap.size < w1.heap.size
section
variable {w w1 wr w2 : World} {xb : Nat} {lv sv : Value} {x y : Cm}
set_option maxRecDepth 3000 in
theorem PsAt.step (h : PsAt w w1 wr xb lv sv x) (hc : Chg (fun b => b = xb) wr w2) (hcm : CmAt w2 xb lv sv y) : PsAt w w1 w2 xb lv sv y :=
  ⟨(chg_blk hc (Blk.inHeap h.res (by simp [cmZ])) (fun e => by have := h.lt; have := h.lo; omega)).trans h.res, hcm, Chg.grows (n := 0) h.grown hc (fun b e => by have := h.lt; have := h.lo; omega), h.chg.trans hc, h.lt, h.lo⟩
set_option maxRecDepth 3000 in
theorem PsAt.grows (h : PsAt w w1 wr xb lv sv x) (hg : Grows wr w2) : PsAt w w1 w2 xb lv sv x := h.step (Chg.of_grows hg) (h.cm.grows hg)
set_option maxRecDepth 3000 in
theorem PsAt.late (h : PsAt w w1 wr xb lv sv x) (hc : Chg (fun b => b = xb) wr w2) : PsLate w w2 :=
  ⟨(chg_blk hc (Blk.inHeap h.res (by simp [cmZ])) (fun e => by have := h.lt; have := h.lo; omega)).trans h.res, Chg.grows (n := 0) h.grown hc (fun b e => by have := h.lt; have := h.lo; omega)⟩
set_option maxRecDepth 3000 in
theorem PsAt.rd (h : PsAt w w1 wr xb lv sv x) {size n : Nat} {A : Option Addr} {xs : List Value} {C : Array Value} (hr : Rd w1 size A n xs) (ho : ∀ a, A = some a → w.heap.size < a.block) : Rd (setBlk wr w.heap.size C) size A n xs := by
  have hc : Chg (fun b => b = xb ∨ b = w.heap.size) w1 (setBlk wr w.heap.size C) := (h.chg.mono fun b _ e => .inl e).trans ((chg_row (g := w.heap.size) (c := C)).mono fun b _ e => .inr e)
  refine hr.chg hc fun hn a ha e => ?_
  obtain ⟨b, o, e1, hb, _⟩ := hr.2 hn
  rw [ha] at e1
  injection e1 with e1
  subst e1
  have := h.lt
  have := ho _ ha
  rcases e with e | e
  · have e : b = xb := e; omega
  · have e : b = w.heap.size := e; have : w.heap.size < b := ho _ ha; omega
set_option maxRecDepth 3000 in
/-- The result's block is laid anew. -/
theorem PsAt.done (h : PsAt w w1 wr xb lv sv x) {C : Array Value} : Grows w (setBlk wr w.heap.size C) := by
  exact Chg.grows (n := 0) h.grown (chg_row (g := w.heap.size) (c := C)) fun b e => Nat.le_of_eq e.symm
end
set_option maxRecDepth 3000 in
theorem named_drew {w w1 wr : World} {xb : Nat} {lv sv : Value} {x : Cm} (h : PsAt w w1 wr xb lv sv x) (hs : SaneB xb wr) (s : List UInt8) (n : Nat) (hl : s.length ≤ 1000) :
    Calls Tryd.prog 18 #[.pointer (some ⟨xb, 0, none⟩), .int .u8 n, .string (tx s)] wr.drew (CmPost wr xb lv sv (namedL x n s)) :=
  (named_cmd (w := wr.drew) (h.cm.grows ((Grows.refl _).drew)) s n hl (hs.grows ((Grows.refl _).drew))).mono fun _ _ hp => hp.pre (Chg.of_grows ((Grows.refl _).drew))
set_option maxRecDepth 3000 in
theorem prefix_any (S t : List UInt8) (w : World) (b : Bool) (hb : ahead t S = b) (X : ByteArray) (hX : X = ⟨t.toArray⟩) : Calls Tryd.prog 16 #[.string (tx S), .string X] w fun e w' => e = .returned (.bool b) ∧ w' = w := by
  subst hb hX
  have h := Tryd.strings_HasPrefix (tx S) ⟨t.toArray⟩ w
  rw [tx_data] at h
  exact h
set_option maxRecDepth 3000 in
set_option maxHeartbeats 8000000 in
theorem cmd_any (s : List UInt8) (hl : s.length ≤ 1000) (w : World) (hs : Sane w) :
    Calls Tryd.prog 6 #[.string (tx s)] w fun e w' => CmdPost (cmdL s) e w' ∧ Grows w w' := by
  have HS0 := Lib.hid hs
  clear hs
  go_enter Tryd.func6, Tryd.ntmps6
  go_wp2_with fail
  (with_reducible refine (range_any s hl _).mono ?_)
  rintro e w1 ⟨hp, m, rfl⟩
  cases hr : rangeL s with
  | none =>
    rw [hr] at hp
    have hp : e = .returned (.tuple #[.agg #[.slice none 0 0, .slice none 0 0], .int .i64 0, .int .i64 200]) := hp
    subst hp
    have HR := Lib.hid (cmd_none hr)
    clear hr
    go_wp2_with fail
    refine bodyPost_ret (v := .tuple #[.agg cmZ, .int .i64 200]) (by simp [results, Tryd.results6, go_sem, cmZ, cm0, adr0]; try rfl) rfl ⟨by rw [HR.out]; rfl, ?_⟩
    repeat' first | exact Grows.refl _ | (with_reducible refine Grows.more ?_ _) | (with_reducible refine Grows.alloc ?_ _)
  | some x =>
    rw [hr] at hp
    obtain ⟨us, ss, t⟩ := x
    obtain ⟨A, ca, B, cb, j, rfl, hA, hR1, hR2, hn1, hn2, ho1, ho2⟩ := hp
    have hjl := hA.le
    have ho1' : ∀ a, A = some a → w.heap.size < a.block := fun a e => by have := ho1 a e; simp at this; omega
    have ho2' : ∀ a, B = some a → w.heap.size < a.block := fun a e => by have := ho2 a e; simp at this; omega
    have HO1 := Lib.hid ho1'
    have HO2 := Lib.hid ho2'
    clear ho1 ho2 ho1' ho2'
    have htl : t.length ≤ 1000 := by have := hA.len; simp only [] at this; omega
    have htail : (tx s).extract j s.length = tx t := by rw [tx_from, hA.eq]
    have HR := Lib.hid (cmd_some hr)
    clear hr hA
    have hR1 := Lib.hid hR1
    have hR2 := Lib.hid hR2
    have hb1 : blk (more (w.alloc (.cells #[.slice none 0 0, .slice none 0 0, .int .u8 0, .int .i64 0, .int .i64 0, .string ⟨#[]⟩, .int .i64 0, .int .u8 0, .string ⟨#[]⟩, .string ⟨#[]⟩, .bool false, .int .i64 0, .string ⟨#[]⟩, .string ⟨#[]⟩, .int .u8 0] 30)) m) w.heap.size = cmZ := by rw [blk_more _ _ _ (by simp [go_sem]), blk_alloc_at _ _ _ _ rfl]; rfl
    have hg1 : Grows w (more (w.alloc (.cells #[.slice none 0 0, .slice none 0 0, .int .u8 0, .int .i64 0, .int .i64 0, .string ⟨#[]⟩, .int .i64 0, .int .u8 0, .string ⟨#[]⟩, .string ⟨#[]⟩, .bool false, .int .i64 0, .string ⟨#[]⟩, .string ⟨#[]⟩, .int .u8 0] 30)) m) := ((Grows.refl w).alloc _).more m
    have hsz1 : (more (w.alloc (.cells #[.slice none 0 0, .slice none 0 0, .int .u8 0, .int .i64 0, .int .i64 0, .string ⟨#[]⟩, .int .i64 0, .int .u8 0, .string ⟨#[]⟩, .string ⟨#[]⟩, .bool false, .int .i64 0, .string ⟨#[]⟩, .string ⟨#[]⟩, .int .u8 0] 30)) m).heap.size = w.heap.size + 1 + m.1.size := by simp
    obtain ⟨xb, hxb⟩ : ∃ n, w.heap.size + 1 + m.1.size + 1 = n := ⟨_, rfl⟩
    have hr1w := hR1.out
    have hr2w := hR2.out
    unfold Rd at hr1w hr2w
    go_wp2_with fail
    generalize (more (w.alloc (.cells #[.slice none 0 0, .slice none 0 0, .int .u8 0, .int .i64 0, .int .i64 0, .string ⟨#[]⟩, .int .i64 0, .int .u8 0, .string ⟨#[]⟩, .string ⟨#[]⟩, .bool false, .int .i64 0, .string ⟨#[]⟩, .string ⟨#[]⟩, .int .u8 0] 30)) m) = w1 at hb1 hg1 hsz1 hr1w hr2w ⊢
    have hs1 : Sane w1 := HS0.out.grows hg1
    have P0 : PsAt w w1 ((w1.alloc (.cells #[.slice A us.length ca, .slice B ss.length cb] 26)).alloc (.cells #[.slice A us.length ca, .slice B ss.length cb, .int .u8 0, .int .i64 0, .int .i64 0, .string ⟨#[]⟩, .int .i64 0, .int .u8 0, .string ⟨#[]⟩, .string ⟨#[]⟩, .bool false, .int .i64 0, .string ⟨#[]⟩, .string ⟨#[]⟩, .int .u8 0] 30)) xb (.slice A us.length ca) (.slice B ss.length cb) (cm0 us ss) :=
      ⟨by rw [blk_alloc_past _ _ _ (by simp [go_sem, InHeap]; omega), blk_alloc_past _ _ _ (by unfold InHeap; omega)]; exact hb1, (blk_alloc_at _ _ _ _ (by simp; omega)).trans rfl, (hg1.alloc _).alloc _, Chg.of_grows (((Grows.refl _).alloc _).alloc _), by omega, by omega⟩
    have hbs : 0 < xb := by have := hs1.lt; omega
    have hrd : ∃ f : Unit → Prop, True := ⟨fun _ => True, trivial⟩
    generalize ((w1.alloc (.cells #[.slice A us.length ca, .slice B ss.length cb] 26)).alloc (.cells #[.slice A us.length ca, .slice B ss.length cb, .int .u8 0, .int .i64 0, .int .i64 0, .string ⟨#[]⟩, .int .i64 0, .int .u8 0, .string ⟨#[]⟩, .string ⟨#[]⟩, .bool false, .int .i64 0, .string ⟨#[]⟩, .string ⟨#[]⟩, .int .u8 0] 30)) = wr0 at P0 ⊢
    have HP0 := Lib.hid P0
    have HS1 := Lib.hid hs1
    have HR1 : Hid (Rd w1 4 A us.length (adrs us)) := Lib.hid hr1w
    have HR2 : Hid (Rd w1 1 B ss.length (ss.map Value.bool)) := Lib.hid hr2w
    clear P0 hs1 hr1w hr2w hR1 hR2 hg1 hb1 hrd hsz1
    (with_reducible refine (trim_any t (by omega) _).mono ?_)
    rintro e w2 ⟨rfl, m2, rfl⟩
    have P2 := Lib.hid (HP0.out.grows (Grows.of wr0 m2))
    have HS2 : Hid (SaneB xb (more wr0 m2)) := Lib.hid ⟨HS1.out.chgX P2.out.chg fun b hb e => by have := P2.out.lt; omega, hbs⟩
    generalize more wr0 m2 = wr at P2 HS2 ⊢
    obtain ⟨u, hu⟩ : ∃ u, skipL t = u := ⟨_, rfl⟩
    rw [hu]
    have hul : u.length ≤ 1000 := by have := skip_le t; rw [hu] at this; omega
    have HU := Lib.hid hu
    clear hu HP0
    cases u with
    | nil =>
      have he : (tx []).toList.isEmpty = true := empty_tx []
      have HFIN := Lib.hid (HR.out.trans (rest_nil HU.out))
      obtain ⟨y, hy⟩ : ∃ y, cm0 us ss = y := ⟨_, rfl⟩
      have PP := P2
      rw [hy] at PP HFIN
      have HL1 : Hid (y.list = us) := Lib.hid (by rw [← hy]; rfl)
      have HL2 : Hid (y.semi = ss) := Lib.hid (by rw [← hy]; rfl)
      clear hy
      obtain ⟨C, hC⟩ : ∃ C, cmC (.slice A us.length ca) (.slice B ss.length cb) y = C := ⟨_, rfl⟩
      have hbx : blk wr xb = C := PP.out.cm.trans hC
      have hCs : C.size = 15 := by rw [← hC]; rfl
      have hC1 : OneCells C := by rw [← hC]; exact cmC_one _ _ _ _ _ _ _
      have hbz : (blk wr w.heap.size).size = 15 := by rw [PP.out.res]; rfl
      have hfin : blk (setBlk wr w.heap.size C) w.heap.size = C := Blk.get C PP.out.res (by decide)
      have HC := Lib.hid hC
      have hHR1 := Lib.hid (PP.out.rd (C := C) HR1.out HO1.out)
      have hHR2 := Lib.hid (PP.out.rd (C := C) HR2.out HO2.out)
      clear hC
      go_wp2_with fail
      refine bodyPost_ret (v := .tuple #[.agg C, .int .i64 0]) (by simp [results, Tryd.results6, go_sem, hfin, hCs]; try rfl) rfl ⟨?_, PP.out.done⟩
      rw [HFIN.out]
      refine ⟨A, ca, B, cb, ?_, ?_, ?_, ?_, ?_⟩
      · rw [← HC.out, HL1.out, HL2.out]
      · rw [HL1.out]; exact hHR1.out
      · rw [HL2.out]; exact hHR2.out
      · rw [HL1.out]; exact hn1
      · rw [HL2.out]; exact hn2

    | cons c r =>
      have he : (tx (c :: r)).toList.isEmpty = false := empty_tx (c :: r)
      have hb := bt_zero c r
      have hrl : r.length ≤ 1000 := by simp at hul; omega
      obtain ⟨n0, hn⟩ : ∃ n, c.toNat = n := ⟨_, rfl⟩
      rw [hn] at hb
      have HN := Lib.hid hn
      have htail1 : (tx (c :: r)).extract 1 (c :: r).length = tx r := tail_tx c r
      obtain ⟨r2, hr2⟩ : ∃ r2, r.drop 1 = r2 := ⟨_, rfl⟩
      have htail2 : (tx (c :: r)).extract 2 (c :: r).length = tx r2 := (tx_from (c :: r) 2).trans (by rw [← hr2]; rfl)
      have hr2l : r2.length ≤ 1000 := by rw [← hr2]; simp; omega
      have HR2E := Lib.hid hr2
      clear hr2
      obtain ⟨S, hS⟩ : ∃ S, c :: r = S := ⟨_, rfl⟩
      have hSl : S.length = r.length + 1 := by rw [← hS]; rfl
      rw [hS] at he hb htail1 htail2 hul ⊢
      have h0 : 0 < S.length := by omega
      have h1S : 1 ≤ S.length := by omega
      have h1Si : (1 : Int) ≤ (S.length : Int) := by omega
      have HS := Lib.hid hS
      have c2 : wr.cell? ⟨xb, 2, none⟩ = some (.int .u8 0) := P2.out.cm.cell 2
      have hfr := P2.out.cm.free
      obtain ⟨y1, hy1⟩ : ∃ b, ahead [121, 97] S = b := ⟨_, rfl⟩
      obtain ⟨y2, hy2⟩ : ∃ b, ahead [112, 117] S = b := ⟨_, rfl⟩
      have HY1 := Lib.hid hy1
      have HY2 := Lib.hid hy2
      have hlen1 : y1 = true → 2 ≤ S.length := fun h => by have := ahead_len (hy1.trans h); simpa using this
      have hlen2 : y2 = true → 2 ≤ S.length := fun h => by have := ahead_len (hy2.trans h); simpa using this
      clear hn hS hSl hy1 hy2
      go_wp2_with fail
      (with_reducible refine (prefix_any S [121, 97] _ y1 HY1.out _ rfl).mono ?_)
      rintro e w3 ⟨rfl, hw⟩
      have hw := hw.symm
      subst hw
      cases y1 with
      | true =>
        have hl2 := hlen1 rfl
        clear hlen1 hlen2
        go_wp2_with fail
        have P2 := Lib.hid (P2.out.step (chg_cell wr xb 2 (.int .u8 89)) (P2.out.cm.put 2 (.int .u8 89) (y := { cm0 us ss with name := 89 }) rfl))
        (with_reducible refine (letter_cmd P2.out.cm r2 hr2l false).mono ?_)
        intro e w9 hp
        obtain ⟨kk, rfl, hpp⟩ := hp.ret
        have hchg := hpp.1
        have hcase := hpp.2
        clear hpp hp
        have hR := Lib.hid (HR.out.trans ((rest_ya HU.out (by rw [HS.out]; exact HY1.out)).trans (by rw [HR2E.out])))
        cases hf : letL { cm0 us ss with name := 89 } false r2 with
        | error n =>
          rw [hf] at hcase
          have hcase : Ending.returned (Value.int .i64 kk) = .returned (.int .i64 n) := hcase
          injection hcase with hcase
          injection hcase with _ hcase
          subst hcase
          have hn0 := err_ne (let_err hf)
          have HFIN := Lib.hid (hR.out.trans hf)
          have PP := Lib.hid (P2.out.late hchg)
          clear hf hchg P2 HS2 he c2 hfr
          generalize w9 = wr at PP ⊢
          have hres := PP.out.res
          have z0 : wr.cell? ⟨w.heap.size, 0, none⟩ = some (.slice none 0 0) := Blk.cell hres (by decide) 0
          have e0 : wr.setCell ⟨w.heap.size, 0, none⟩ (.slice none 0 0) = wr := setCell_same hres (by decide) 0 rfl
          have z1 : wr.cell? ⟨w.heap.size, 1, none⟩ = some (.slice none 0 0) := Blk.cell hres (by decide) 1
          have e1 : wr.setCell ⟨w.heap.size, 1, none⟩ (.slice none 0 0) = wr := setCell_same hres (by decide) 1 rfl
          have z2 : wr.cell? ⟨w.heap.size, 2, none⟩ = some (.int .u8 0) := Blk.cell hres (by decide) 2
          have e2 : wr.setCell ⟨w.heap.size, 2, none⟩ (.int .u8 0) = wr := setCell_same hres (by decide) 2 rfl
          have z3 : wr.cell? ⟨w.heap.size, 3, none⟩ = some (.int .i64 0) := Blk.cell hres (by decide) 3
          have e3 : wr.setCell ⟨w.heap.size, 3, none⟩ (.int .i64 0) = wr := setCell_same hres (by decide) 3 rfl
          have z4 : wr.cell? ⟨w.heap.size, 4, none⟩ = some (.int .i64 0) := Blk.cell hres (by decide) 4
          have e4 : wr.setCell ⟨w.heap.size, 4, none⟩ (.int .i64 0) = wr := setCell_same hres (by decide) 4 rfl
          have z5 : wr.cell? ⟨w.heap.size, 5, none⟩ = some (.string ⟨#[]⟩) := Blk.cell hres (by decide) 5
          have e5 : wr.setCell ⟨w.heap.size, 5, none⟩ (.string ⟨#[]⟩) = wr := setCell_same hres (by decide) 5 rfl
          have z6 : wr.cell? ⟨w.heap.size, 6, none⟩ = some (.int .i64 0) := Blk.cell hres (by decide) 6
          have e6 : wr.setCell ⟨w.heap.size, 6, none⟩ (.int .i64 0) = wr := setCell_same hres (by decide) 6 rfl
          have z7 : wr.cell? ⟨w.heap.size, 7, none⟩ = some (.int .u8 0) := Blk.cell hres (by decide) 7
          have e7 : wr.setCell ⟨w.heap.size, 7, none⟩ (.int .u8 0) = wr := setCell_same hres (by decide) 7 rfl
          have z8 : wr.cell? ⟨w.heap.size, 8, none⟩ = some (.string ⟨#[]⟩) := Blk.cell hres (by decide) 8
          have e8 : wr.setCell ⟨w.heap.size, 8, none⟩ (.string ⟨#[]⟩) = wr := setCell_same hres (by decide) 8 rfl
          have z9 : wr.cell? ⟨w.heap.size, 9, none⟩ = some (.string ⟨#[]⟩) := Blk.cell hres (by decide) 9
          have e9 : wr.setCell ⟨w.heap.size, 9, none⟩ (.string ⟨#[]⟩) = wr := setCell_same hres (by decide) 9 rfl
          have z10 : wr.cell? ⟨w.heap.size, 10, none⟩ = some (.bool false) := Blk.cell hres (by decide) 10
          have e10 : wr.setCell ⟨w.heap.size, 10, none⟩ (.bool false) = wr := setCell_same hres (by decide) 10 rfl
          have z11 : wr.cell? ⟨w.heap.size, 11, none⟩ = some (.int .i64 0) := Blk.cell hres (by decide) 11
          have e11 : wr.setCell ⟨w.heap.size, 11, none⟩ (.int .i64 0) = wr := setCell_same hres (by decide) 11 rfl
          have z12 : wr.cell? ⟨w.heap.size, 12, none⟩ = some (.string ⟨#[]⟩) := Blk.cell hres (by decide) 12
          have e12 : wr.setCell ⟨w.heap.size, 12, none⟩ (.string ⟨#[]⟩) = wr := setCell_same hres (by decide) 12 rfl
          have z13 : wr.cell? ⟨w.heap.size, 13, none⟩ = some (.string ⟨#[]⟩) := Blk.cell hres (by decide) 13
          have e13 : wr.setCell ⟨w.heap.size, 13, none⟩ (.string ⟨#[]⟩) = wr := setCell_same hres (by decide) 13 rfl
          have z14 : wr.cell? ⟨w.heap.size, 14, none⟩ = some (.int .u8 0) := Blk.cell hres (by decide) 14
          have e14 : wr.setCell ⟨w.heap.size, 14, none⟩ (.int .u8 0) = wr := setCell_same hres (by decide) 14 rfl
          have hfz : ∀ k, wr.frozen? ⟨w.heap.size, k, none⟩ = false := fun k => Blk.free hres (by decide) k
          go_wp2_with fail
          refine bodyPost_ret (v := .tuple #[.agg cmZ, .int .i64 n]) (by simp [results, Tryd.results6, go_sem, hres, cmZ_size]; try rfl) rfl ⟨?_, PP.out.grown⟩
          rw [HFIN.out]
          rfl
        | ok y =>
          rw [hf] at hcase
          obtain ⟨hkn, hcm⟩ := hcase
          injection hkn with hkn
          injection hkn with _ hkn
          subst hkn
          have HFIN := Lib.hid (hR.out.trans hf)
          have hl12 := rest_ok ((((rest_ya HU.out (by rw [HS.out]; exact HY1.out)).trans (by rw [HR2E.out]))).trans hf)
          have HL1 := Lib.hid hl12.2.1
          have HL2 := Lib.hid hl12.2.2
          have PP := Lib.hid (P2.out.step hchg hcm)
          clear hf hl12 hchg hcm P2 HS2 he c2 hfr
          generalize w9 = wr at PP ⊢
          obtain ⟨C, hC⟩ : ∃ C, cmC (.slice A us.length ca) (.slice B ss.length cb) y = C := ⟨_, rfl⟩
          have hbx : blk wr xb = C := PP.out.cm.trans hC
          have hCs : C.size = 15 := by rw [← hC]; rfl
          have hC1 : OneCells C := by rw [← hC]; exact cmC_one _ _ _ _ _ _ _
          have hbz : (blk wr w.heap.size).size = 15 := by rw [PP.out.res]; rfl
          have hfin : blk (setBlk wr w.heap.size C) w.heap.size = C := Blk.get C PP.out.res (by decide)
          have HC := Lib.hid hC
          have hHR1 := Lib.hid (PP.out.rd (C := C) HR1.out HO1.out)
          have hHR2 := Lib.hid (PP.out.rd (C := C) HR2.out HO2.out)
          clear hC
          go_wp2_with fail
          refine bodyPost_ret (v := .tuple #[.agg C, .int .i64 0]) (by simp [results, Tryd.results6, go_sem, hfin, hCs]; try rfl) rfl ⟨?_, PP.out.done⟩
          rw [HFIN.out]
          refine ⟨A, ca, B, cb, ?_, ?_, ?_, ?_, ?_⟩
          · rw [← HC.out, HL1.out, HL2.out]
          · rw [HL1.out]; exact hHR1.out
          · rw [HL2.out]; exact hHR2.out
          · rw [HL1.out]; exact hn1
          · rw [HL2.out]; exact hn2
      | false =>
        clear hlen1
        go_wp2_with fail
        (with_reducible refine (prefix_any S [112, 117] _ y2 HY2.out _ rfl).mono ?_)
        rintro e w3 ⟨rfl, hw⟩
        have hw := hw.symm
        subst hw
        cases y2 with
        | true =>
          have hl2 := hlen2 rfl
          clear hlen2
          go_wp2_with fail
          have P2 := Lib.hid (P2.out.step (chg_cell wr xb 2 (.int .u8 80)) (P2.out.cm.put 2 (.int .u8 80) (y := { cm0 us ss with name := 80 }) rfl))
          (with_reducible refine (letter_cmd P2.out.cm r2 hr2l false).mono ?_)
          intro e w9 hp
          obtain ⟨kk, rfl, hpp⟩ := hp.ret
          have hchg := hpp.1
          have hcase := hpp.2
          clear hpp hp
          have hR := Lib.hid (HR.out.trans ((rest_pu HU.out (by rw [HS.out]; exact HY1.out) (by rw [HS.out]; exact HY2.out)).trans (by rw [HR2E.out])))
          cases hf : letL { cm0 us ss with name := 80 } false r2 with
          | error n =>
            rw [hf] at hcase
            have hcase : Ending.returned (Value.int .i64 kk) = .returned (.int .i64 n) := hcase
            injection hcase with hcase
            injection hcase with _ hcase
            subst hcase
            have hn0 := err_ne (let_err hf)
            have HFIN := Lib.hid (hR.out.trans hf)
            have PP := Lib.hid (P2.out.late hchg)
            clear hf hchg P2 HS2 he c2 hfr
            generalize w9 = wr at PP ⊢
            have hres := PP.out.res
            have z0 : wr.cell? ⟨w.heap.size, 0, none⟩ = some (.slice none 0 0) := Blk.cell hres (by decide) 0
            have e0 : wr.setCell ⟨w.heap.size, 0, none⟩ (.slice none 0 0) = wr := setCell_same hres (by decide) 0 rfl
            have z1 : wr.cell? ⟨w.heap.size, 1, none⟩ = some (.slice none 0 0) := Blk.cell hres (by decide) 1
            have e1 : wr.setCell ⟨w.heap.size, 1, none⟩ (.slice none 0 0) = wr := setCell_same hres (by decide) 1 rfl
            have z2 : wr.cell? ⟨w.heap.size, 2, none⟩ = some (.int .u8 0) := Blk.cell hres (by decide) 2
            have e2 : wr.setCell ⟨w.heap.size, 2, none⟩ (.int .u8 0) = wr := setCell_same hres (by decide) 2 rfl
            have z3 : wr.cell? ⟨w.heap.size, 3, none⟩ = some (.int .i64 0) := Blk.cell hres (by decide) 3
            have e3 : wr.setCell ⟨w.heap.size, 3, none⟩ (.int .i64 0) = wr := setCell_same hres (by decide) 3 rfl
            have z4 : wr.cell? ⟨w.heap.size, 4, none⟩ = some (.int .i64 0) := Blk.cell hres (by decide) 4
            have e4 : wr.setCell ⟨w.heap.size, 4, none⟩ (.int .i64 0) = wr := setCell_same hres (by decide) 4 rfl
            have z5 : wr.cell? ⟨w.heap.size, 5, none⟩ = some (.string ⟨#[]⟩) := Blk.cell hres (by decide) 5
            have e5 : wr.setCell ⟨w.heap.size, 5, none⟩ (.string ⟨#[]⟩) = wr := setCell_same hres (by decide) 5 rfl
            have z6 : wr.cell? ⟨w.heap.size, 6, none⟩ = some (.int .i64 0) := Blk.cell hres (by decide) 6
            have e6 : wr.setCell ⟨w.heap.size, 6, none⟩ (.int .i64 0) = wr := setCell_same hres (by decide) 6 rfl
            have z7 : wr.cell? ⟨w.heap.size, 7, none⟩ = some (.int .u8 0) := Blk.cell hres (by decide) 7
            have e7 : wr.setCell ⟨w.heap.size, 7, none⟩ (.int .u8 0) = wr := setCell_same hres (by decide) 7 rfl
            have z8 : wr.cell? ⟨w.heap.size, 8, none⟩ = some (.string ⟨#[]⟩) := Blk.cell hres (by decide) 8
            have e8 : wr.setCell ⟨w.heap.size, 8, none⟩ (.string ⟨#[]⟩) = wr := setCell_same hres (by decide) 8 rfl
            have z9 : wr.cell? ⟨w.heap.size, 9, none⟩ = some (.string ⟨#[]⟩) := Blk.cell hres (by decide) 9
            have e9 : wr.setCell ⟨w.heap.size, 9, none⟩ (.string ⟨#[]⟩) = wr := setCell_same hres (by decide) 9 rfl
            have z10 : wr.cell? ⟨w.heap.size, 10, none⟩ = some (.bool false) := Blk.cell hres (by decide) 10
            have e10 : wr.setCell ⟨w.heap.size, 10, none⟩ (.bool false) = wr := setCell_same hres (by decide) 10 rfl
            have z11 : wr.cell? ⟨w.heap.size, 11, none⟩ = some (.int .i64 0) := Blk.cell hres (by decide) 11
            have e11 : wr.setCell ⟨w.heap.size, 11, none⟩ (.int .i64 0) = wr := setCell_same hres (by decide) 11 rfl
            have z12 : wr.cell? ⟨w.heap.size, 12, none⟩ = some (.string ⟨#[]⟩) := Blk.cell hres (by decide) 12
            have e12 : wr.setCell ⟨w.heap.size, 12, none⟩ (.string ⟨#[]⟩) = wr := setCell_same hres (by decide) 12 rfl
            have z13 : wr.cell? ⟨w.heap.size, 13, none⟩ = some (.string ⟨#[]⟩) := Blk.cell hres (by decide) 13
            have e13 : wr.setCell ⟨w.heap.size, 13, none⟩ (.string ⟨#[]⟩) = wr := setCell_same hres (by decide) 13 rfl
            have z14 : wr.cell? ⟨w.heap.size, 14, none⟩ = some (.int .u8 0) := Blk.cell hres (by decide) 14
            have e14 : wr.setCell ⟨w.heap.size, 14, none⟩ (.int .u8 0) = wr := setCell_same hres (by decide) 14 rfl
            have hfz : ∀ k, wr.frozen? ⟨w.heap.size, k, none⟩ = false := fun k => Blk.free hres (by decide) k
            go_wp2_with fail
            refine bodyPost_ret (v := .tuple #[.agg cmZ, .int .i64 n]) (by simp [results, Tryd.results6, go_sem, hres, cmZ_size]; try rfl) rfl ⟨?_, PP.out.grown⟩
            rw [HFIN.out]
            rfl
          | ok y =>
            rw [hf] at hcase
            obtain ⟨hkn, hcm⟩ := hcase
            injection hkn with hkn
            injection hkn with _ hkn
            subst hkn
            have HFIN := Lib.hid (hR.out.trans hf)
            have hl12 := rest_ok ((((rest_pu HU.out (by rw [HS.out]; exact HY1.out) (by rw [HS.out]; exact HY2.out)).trans (by rw [HR2E.out]))).trans hf)
            have HL1 := Lib.hid hl12.2.1
            have HL2 := Lib.hid hl12.2.2
            have PP := Lib.hid (P2.out.step hchg hcm)
            clear hf hl12 hchg hcm P2 HS2 he c2 hfr
            generalize w9 = wr at PP ⊢
            obtain ⟨C, hC⟩ : ∃ C, cmC (.slice A us.length ca) (.slice B ss.length cb) y = C := ⟨_, rfl⟩
            have hbx : blk wr xb = C := PP.out.cm.trans hC
            have hCs : C.size = 15 := by rw [← hC]; rfl
            have hC1 : OneCells C := by rw [← hC]; exact cmC_one _ _ _ _ _ _ _
            have hbz : (blk wr w.heap.size).size = 15 := by rw [PP.out.res]; rfl
            have hfin : blk (setBlk wr w.heap.size C) w.heap.size = C := Blk.get C PP.out.res (by decide)
            have HC := Lib.hid hC
            have hHR1 := Lib.hid (PP.out.rd (C := C) HR1.out HO1.out)
            have hHR2 := Lib.hid (PP.out.rd (C := C) HR2.out HO2.out)
            clear hC
            go_wp2_with fail
            refine bodyPost_ret (v := .tuple #[.agg C, .int .i64 0]) (by simp [results, Tryd.results6, go_sem, hfin, hCs]; try rfl) rfl ⟨?_, PP.out.done⟩
            rw [HFIN.out]
            refine ⟨A, ca, B, cb, ?_, ?_, ?_, ?_, ?_⟩
            · rw [← HC.out, HL1.out, HL2.out]
            · rw [HL1.out]; exact hHR1.out
            · rw [HL2.out]; exact hHR2.out
            · rw [HL1.out]; exact hn1
            · rw [HL2.out]; exact hn2
        | false =>
          clear hlen2
          go_wp2_with fail
          go_region_law (first | (go_simp; (with_reducible refine (named_drew P2.out HS2.out r n0 hrl).mono ?_); intro e w9 hp; obtain ⟨kk, rfl, hpp⟩ := hp.ret; dsimp only))
          all_goals
            have hchg := hpp.1
            have hcase := hpp.2
            clear hpp hp
            have hR := Lib.hid (HR.out.trans ((rest_named HU.out (by rw [HS.out]; exact HY1.out) (by rw [HS.out]; exact HY2.out)).trans (by rw [HN.out])))
            cases hf : namedL (cm0 us ss) n0 r with
            | error n =>
              rw [hf] at hcase
              have hcase : Ending.returned (Value.int .i64 kk) = .returned (.int .i64 n) := hcase
              injection hcase with hcase
              injection hcase with _ hcase
              subst hcase
              have hn0 := err_ne (named_err hf)
              have HFIN := Lib.hid (hR.out.trans hf)
              have PP := Lib.hid (P2.out.late hchg)
              clear hf hchg P2 HS2 he c2 hfr
              generalize w9 = wr at PP ⊢
              have hres := PP.out.res
              have z0 : wr.cell? ⟨w.heap.size, 0, none⟩ = some (.slice none 0 0) := Blk.cell hres (by decide) 0
              have e0 : wr.setCell ⟨w.heap.size, 0, none⟩ (.slice none 0 0) = wr := setCell_same hres (by decide) 0 rfl
              have z1 : wr.cell? ⟨w.heap.size, 1, none⟩ = some (.slice none 0 0) := Blk.cell hres (by decide) 1
              have e1 : wr.setCell ⟨w.heap.size, 1, none⟩ (.slice none 0 0) = wr := setCell_same hres (by decide) 1 rfl
              have z2 : wr.cell? ⟨w.heap.size, 2, none⟩ = some (.int .u8 0) := Blk.cell hres (by decide) 2
              have e2 : wr.setCell ⟨w.heap.size, 2, none⟩ (.int .u8 0) = wr := setCell_same hres (by decide) 2 rfl
              have z3 : wr.cell? ⟨w.heap.size, 3, none⟩ = some (.int .i64 0) := Blk.cell hres (by decide) 3
              have e3 : wr.setCell ⟨w.heap.size, 3, none⟩ (.int .i64 0) = wr := setCell_same hres (by decide) 3 rfl
              have z4 : wr.cell? ⟨w.heap.size, 4, none⟩ = some (.int .i64 0) := Blk.cell hres (by decide) 4
              have e4 : wr.setCell ⟨w.heap.size, 4, none⟩ (.int .i64 0) = wr := setCell_same hres (by decide) 4 rfl
              have z5 : wr.cell? ⟨w.heap.size, 5, none⟩ = some (.string ⟨#[]⟩) := Blk.cell hres (by decide) 5
              have e5 : wr.setCell ⟨w.heap.size, 5, none⟩ (.string ⟨#[]⟩) = wr := setCell_same hres (by decide) 5 rfl
              have z6 : wr.cell? ⟨w.heap.size, 6, none⟩ = some (.int .i64 0) := Blk.cell hres (by decide) 6
              have e6 : wr.setCell ⟨w.heap.size, 6, none⟩ (.int .i64 0) = wr := setCell_same hres (by decide) 6 rfl
              have z7 : wr.cell? ⟨w.heap.size, 7, none⟩ = some (.int .u8 0) := Blk.cell hres (by decide) 7
              have e7 : wr.setCell ⟨w.heap.size, 7, none⟩ (.int .u8 0) = wr := setCell_same hres (by decide) 7 rfl
              have z8 : wr.cell? ⟨w.heap.size, 8, none⟩ = some (.string ⟨#[]⟩) := Blk.cell hres (by decide) 8
              have e8 : wr.setCell ⟨w.heap.size, 8, none⟩ (.string ⟨#[]⟩) = wr := setCell_same hres (by decide) 8 rfl
              have z9 : wr.cell? ⟨w.heap.size, 9, none⟩ = some (.string ⟨#[]⟩) := Blk.cell hres (by decide) 9
              have e9 : wr.setCell ⟨w.heap.size, 9, none⟩ (.string ⟨#[]⟩) = wr := setCell_same hres (by decide) 9 rfl
              have z10 : wr.cell? ⟨w.heap.size, 10, none⟩ = some (.bool false) := Blk.cell hres (by decide) 10
              have e10 : wr.setCell ⟨w.heap.size, 10, none⟩ (.bool false) = wr := setCell_same hres (by decide) 10 rfl
              have z11 : wr.cell? ⟨w.heap.size, 11, none⟩ = some (.int .i64 0) := Blk.cell hres (by decide) 11
              have e11 : wr.setCell ⟨w.heap.size, 11, none⟩ (.int .i64 0) = wr := setCell_same hres (by decide) 11 rfl
              have z12 : wr.cell? ⟨w.heap.size, 12, none⟩ = some (.string ⟨#[]⟩) := Blk.cell hres (by decide) 12
              have e12 : wr.setCell ⟨w.heap.size, 12, none⟩ (.string ⟨#[]⟩) = wr := setCell_same hres (by decide) 12 rfl
              have z13 : wr.cell? ⟨w.heap.size, 13, none⟩ = some (.string ⟨#[]⟩) := Blk.cell hres (by decide) 13
              have e13 : wr.setCell ⟨w.heap.size, 13, none⟩ (.string ⟨#[]⟩) = wr := setCell_same hres (by decide) 13 rfl
              have z14 : wr.cell? ⟨w.heap.size, 14, none⟩ = some (.int .u8 0) := Blk.cell hres (by decide) 14
              have e14 : wr.setCell ⟨w.heap.size, 14, none⟩ (.int .u8 0) = wr := setCell_same hres (by decide) 14 rfl
              have hfz : ∀ k, wr.frozen? ⟨w.heap.size, k, none⟩ = false := fun k => Blk.free hres (by decide) k
              go_wp2_with fail
              refine bodyPost_ret (v := .tuple #[.agg cmZ, .int .i64 n]) (by simp [results, Tryd.results6, go_sem, hres, cmZ_size]; try rfl) rfl ⟨?_, PP.out.grown⟩
              rw [HFIN.out]
              rfl
            | ok y =>
              rw [hf] at hcase
              obtain ⟨hkn, hcm⟩ := hcase
              injection hkn with hkn
              injection hkn with _ hkn
              subst hkn
              have HFIN := Lib.hid (hR.out.trans hf)
              have hl12 := rest_ok ((((rest_named HU.out (by rw [HS.out]; exact HY1.out) (by rw [HS.out]; exact HY2.out)).trans (by rw [HN.out]))).trans hf)
              have HL1 := Lib.hid hl12.2.1
              have HL2 := Lib.hid hl12.2.2
              have PP := Lib.hid (P2.out.step hchg hcm)
              clear hf hl12 hchg hcm P2 HS2 he c2 hfr
              generalize w9 = wr at PP ⊢
              obtain ⟨C, hC⟩ : ∃ C, cmC (.slice A us.length ca) (.slice B ss.length cb) y = C := ⟨_, rfl⟩
              have hbx : blk wr xb = C := PP.out.cm.trans hC
              have hCs : C.size = 15 := by rw [← hC]; rfl
              have hC1 : OneCells C := by rw [← hC]; exact cmC_one _ _ _ _ _ _ _
              have hbz : (blk wr w.heap.size).size = 15 := by rw [PP.out.res]; rfl
              have hfin : blk (setBlk wr w.heap.size C) w.heap.size = C := Blk.get C PP.out.res (by decide)
              have HC := Lib.hid hC
              have hHR1 := Lib.hid (PP.out.rd (C := C) HR1.out HO1.out)
              have hHR2 := Lib.hid (PP.out.rd (C := C) HR2.out HO2.out)
              clear hC
              go_wp2_with fail
              refine bodyPost_ret (v := .tuple #[.agg C, .int .i64 0]) (by simp [results, Tryd.results6, go_sem, hfin, hCs]; try rfl) rfl ⟨?_, PP.out.done⟩
              rw [HFIN.out]
              refine ⟨A, ca, B, cb, ?_, ?_, ?_, ?_, ?_⟩
              · rw [← HC.out, HL1.out, HL2.out]
              · rw [HL1.out]; exact hHR1.out
              · rw [HL2.out]; exact hHR2.out
              · rw [HL1.out]; exact hn1
              · rw [HL2.out]; exact hn2
end Go.Proofs.YtpdlmknbpggohaaDoor
