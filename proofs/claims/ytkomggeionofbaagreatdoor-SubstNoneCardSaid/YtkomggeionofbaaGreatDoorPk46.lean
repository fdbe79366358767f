/-
  Several texts of the proof: TplMost, Law, Open, NumsGen, TplExp.
-/
import Derived.Test.YtkomggeionofbaaGreatDoorPk45
import Derived.Test.YtkomggeionofbaaGreatDoorPk00
import Derived.ProofKit
import Derived.OpenShut
import Derived.Lib.SmallJoins
import Derived.Deep.Fields
set_option linter.unusedSimpArgs false
set_option linter.unusedVariables false
/-
  Templates: Most and Expand, and the document's, walked.
-/
namespace Go.Proofs.YtkomggeionofbaaGreatDoor
open Go.RowKit

attribute [local go_sem] tx_bt tx_from
/-- A pointer to a replacement; none: nil. -/
def TplPtr (w : World) (v : Value) (x : Option (List Tok)) : Prop := match x with
  | none => v = .pointer none
  | some l => ∃ g, v = .pointer (some ⟨g, 0, none⟩) ∧ IsTpl w g l
set_option maxRecDepth 3000 in
theorem TplPtr.grows {w w' : World} {v : Value} {x : Option (List Tok)} (h : TplPtr w v x) (hg : Grows w w') : TplPtr w' v x := by
  cases x with
  | none => exact h
  | some l => obtain ⟨g, hv, h⟩ := h; exact ⟨g, hv, h.grows hg⟩
/-- Groups are few. -/
def Small (l : List Tok) : Prop := ∀ n, Tok.grp n ∈ l → n ≤ 9
set_option maxRecDepth 3000 in
theorem Small.tail {t : Tok} {l : List Tok} (h : Small (t :: l)) : Small l := fun n hn => h n (by simp [hn])
set_option maxRecDepth 3000 in
theorem assert_group (n : Int) (w : World) : (Instr.typeAssert (.iface 55 (.int .i64 n)) 57 55 true).run Tryz.prog w = .ok (.tuple #[.int .i64 n, .bool true]) w := by kernel_rfl
set_option maxRecDepth 3000 in
theorem assert_text (s : ByteArray) (w : World) : (Instr.typeAssert (.iface 54 (.string s)) 57 55 true).run Tryz.prog w = .ok (.tuple #[.int .i64 0, .bool false]) w := by kernel_rfl
set_option maxRecDepth 3000 in
theorem assert_text2 (s : ByteArray) (w : World) : (Instr.typeAssert (.iface 54 (.string s)) 57 54 true).run Tryz.prog w = .ok (.tuple #[.string s, .bool true]) w := by kernel_rfl
attribute [local go_sem] assert_group assert_text assert_text2
end Go.Proofs.YtkomggeionofbaaGreatDoor

/-
  A law's last step, once for all laws of the seat: a law whose call returns true and turns nothing that was there keeps its row.
-/
namespace Go.Proofs.YtkomggeionofbaaGreatDoor
open Go.ChangeShapes Go.WideShapes Go.ChangeAt Go.RowKit

set_option maxRecDepth 3000 in
theorem Tryz.own : ownKnob Tryz.prog.godebug = none := by kernel_rfl
set_option maxRecDepth 3000 in
theorem Tryz.laidOut : laidOutB Tryz.prog = true := by kernel_rfl

section
variable {H : Type} {enc : TypeId × Value → H}
set_option maxRecDepth 3000 in
/-- The arguments read as they did. -/
theorem trodAll_stays {W W' : World} (hb : Below W.heap.size W W') {sp : Nat → Bool} (ts : List TypeId) : ∀ {vs : List Value} {ds : List (DataW H)} {ps : List MemPlace},
    ts.all (fun t => Tryz.prog.readableRec t && decide (t < Tryz.prog.types.size)) = true → DataW.TrodAll enc Tryz.prog W 0 (fun _ => true) true ts vs ds ps →
    (∀ p ∈ ps, p.block < W.heap.size) → (∀ p ∈ ps, sp p.block = true) → DataW.TrodAll enc Tryz.prog W' 0 sp true ts vs ds ps := by
  induction ts with
  | nil =>
    intro vs ds ps _ h _ _
    cases vs with
    | nil => cases ds with
      | nil => exact h
      | cons _ _ => exact h.elim
    | cons _ _ => exact h.elim
  | cons t ts ih =>
    intro vs ds ps hr h hlt hsp
    cases vs with
    | nil => exact h.elim
    | cons v vs =>
      cases ds with
      | nil => exact h.elim
      | cons d ds =>
        obtain ⟨p, q, h1, h2, rfl⟩ := h
        simp only [List.all_cons, Bool.and_eq_true, decide_eq_true_eq] at hr
        exact ⟨p, q, WideElems.Trod_stays Tryz.laidOut hr.1.1 hr.1.2 h1 (fun x hx => hb.same (hlt x (by simp [hx]))) (fun x hx => hsp x (by simp [hx])),
          ih hr.2 h2 (fun x hx => hlt x (by simp [hx])) (fun x hx => hsp x (by simp [hx])), rfl⟩

end
end Go.Proofs.YtkomggeionofbaaGreatDoor

/-
  Arguments of the laws, opened: arrays of numbers, slices whose elements are read one by one, lists of strings.
-/
namespace Go.Proofs.YtkomggeionofbaaGreatDoor
open Go.ChangeShapes Go.WideShapes Go.ChangeAt Go.RowKit Go.Joins

section
variable {H : Type} {enc : TypeId × Value → H} {P : Program} {W : World} {base b0 : Nat} {spare : Nat → Bool} {held : Bool}
set_option maxRecDepth 3000 in
theorem flatten_at {size : Nat} : ∀ (css : List (List Value)), (∀ cs ∈ css, cs.length = size) → ∀ i j, j < size → css.flatten[i * size + j]? = (css[i]?).bind (·[j]?) := by
  intro css
  induction css with
  | nil => intro _ i j _; simp
  | cons c css ih =>
    intro h i j hj
    have hc : c.length = size := h c (by simp)
    rw [List.flatten_cons]
    cases i with
    | zero => rw [Nat.zero_mul, Nat.zero_add, List.getElem?_append_left (by omega)]; simp
    | succ i =>
      rw [List.getElem?_append_right (by rw [hc, Nat.succ_mul]; omega), List.getElem?_cons_succ, ← ih (fun x hx => h x (by simp [hx])) i j hj]
      congr 1
      rw [hc, Nat.succ_mul]
      omega
end
end Go.Proofs.YtkomggeionofbaaGreatDoor

/-
  Arrays of numbers that come in as arguments, opened.
-/
namespace Go.Proofs.YtkomggeionofbaaGreatDoor
open Go.ChangeShapes Go.WideShapes Go.ChangeAt Go.RowKit Go.Joins

/-- The cells of numbers. -/
def nums (ms : List Int) : Array Value := (ms.map (Value.int .i64)).toArray
section
variable {H : Type} {enc : TypeId × Value → H} {W : World} {base b0 : Nat} {spare : Nat → Bool} {held : Bool}
end
end Go.Proofs.YtkomggeionofbaaGreatDoor

/-
  Templates: told and Expand, walked.
-/
namespace Go.Proofs.YtkomggeionofbaaGreatDoor
open Go.RowKit

attribute [local go_sem] tx_bt tx_from
/-- A number of the spans. -/
def sp (ms : List Int) (j : Nat) : Int := ms.getD j 0
set_option maxRecDepth 3000 in
theorem nums_size (ms : List Int) : (nums ms).size = ms.length := by simp [nums]
set_option maxRecDepth 3000 in
theorem nums_get (ms : List Int) (j : Nat) (h : j < ms.length) : (nums ms)[j]? = some (.int .i64 (sp ms j)) := by
  simp [nums, sp, h]
set_option maxRecDepth 3000 in
theorem nums_one (ms : List Int) : OneCells (nums ms) := by
  unfold OneCells nums
  simp
  intro x _
  rfl
/-- The stretch of a group. -/
def strV (s : List UInt8) (ms : List Int) (n : Nat) : List UInt8 :=
  if 0 ≤ sp ms (n * 2) ∧ sp ms (n * 2) ≤ sp ms (n * 2 + 1) ∧ sp ms (n * 2 + 1) ≤ s.length then (s.drop (sp ms (n * 2)).toNat).take ((sp ms (n * 2 + 1)).toNat - (sp ms (n * 2)).toNat) else []
set_option maxRecDepth 100000 in
set_option maxHeartbeats 2000000 in
theorem told_text (l s : List UInt8) (ms : List Int) (w : World) : Calls Tryz.prog 137 #[.string (tx l), .string (tx s), .agg (nums ms)] w fun e w' => e = .returned (.string (tx l)) ∧ Grows w w' := by
  go_enter Tryz.func137, Tryz.ntmps137
  go_wp2_with fail
  go_ret
  exact ⟨rfl, (Grows.refl _).alloc _⟩
set_option maxRecDepth 100000 in
set_option maxHeartbeats 2000000 in
theorem told_group (n : Nat) (s : List UInt8) (ms : List Int) (w : World) (hn : n ≤ 9) (hm : ms.length = 20) (hs : s.length ≤ 1000000) : Calls Tryz.prog 138 #[.int .i64 n, .string (tx s), .agg (nums ms)] w fun e w' => e = .returned (.string (tx (strV s ms n))) ∧ Grows w w' := by
  have hsz := nums_size ms
  rw [hm] at hsz
  have h0 := nums_get ms (n * 2) (by omega)
  have h1 := nums_get ms (n * 2 + 1) (by omega)
  have n0 : (0 : Int) ≤ (n : Int) := by omega
  have n1 : (n : Int) < 10 := by omega
  have hV : strV s ms n = if 0 ≤ sp ms (n * 2) ∧ sp ms (n * 2) ≤ sp ms (n * 2 + 1) ∧ sp ms (n * 2 + 1) ≤ s.length then (s.drop (sp ms (n * 2)).toNat).take ((sp ms (n * 2 + 1)).toNat - (sp ms (n * 2)).toNat) else [] := rfl
  have HV := Lib.hid hV
  have HM := Lib.hid hm
  clear hV hm
  generalize sp ms (n * 2) = a at *
  generalize sp ms (n * 2 + 1) = b at *
  go_enter Tryz.func138, Tryz.ntmps138
  go_wp2_with fail
  go_quiet (fail)
  by_cases ha : a < 0
  · have HZ := Lib.hid (HV.out.trans (if_neg (by omega)))
    go_wp2_with fail
    go_ret
    exact ⟨by rw [HZ.out]; rfl, ((Grows.refl _).alloc _).drewN _⟩
  by_cases hb : b < a
  · have HZ := Lib.hid (HV.out.trans (if_neg (by omega)))
    go_wp2_with fail
    go_ret
    exact ⟨by rw [HZ.out]; rfl, ((Grows.refl _).alloc _).drewN _⟩
  by_cases hc : (s.length : Int) < b
  · have HZ := Lib.hid (HV.out.trans (if_neg (by omega)))
    go_wp2_with fail
    go_ret
    exact ⟨by rw [HZ.out]; rfl, ((Grows.refl _).alloc _).drewN _⟩
  have HZ := Lib.hid (HV.out.trans (if_pos (by omega)))
  clear h0 h1 HV
  obtain ⟨k, rfl⟩ : ∃ k : Nat, a = k := ⟨a.toNat, by omega⟩
  obtain ⟨m, rfl⟩ : ∃ m : Nat, b = m := ⟨b.toNat, by omega⟩
  have hx := tx_mid s k m
  have k1 : k ≤ m := by omega
  have k2 : m ≤ s.length := by omega
  go_wp2_with fail
  go_ret
  exact ⟨by rw [HZ.out]; rfl, ((Grows.refl _).alloc _).drewN _⟩
set_option maxRecDepth 3000 in
theorem method_text (n : Nat) (s : ByteArray) (w : World) : (method (n + 1) 54 (.string s) "inkhorn/templates.told").run Tryz.prog w = .ok (137, .string s) w := by kernel_rfl
set_option maxRecDepth 3000 in
theorem method_group (n : Nat) (k : Int) (w : World) : (method (n + 1) 55 (.int .i64 k) "inkhorn/templates.told").run Tryz.prog w = .ok (138, .int .i64 k) w := by kernel_rfl
attribute [local go_sem] method_text method_group
def outV (s : List UInt8) (ms : List Int) (l : List Tok) : List UInt8 := (l.map (toldV (strV s ms))).flatten
set_option maxRecDepth 3000 in
theorem strV_len (s : List UInt8) (ms : List Int) (n : Nat) : (strV s ms n).length ≤ s.length := by
  unfold strV
  split
  · simp; omega
  · simp
/-- How long the texts of pieces are. -/
def longT : Tok → Nat
  | .text l => l.length
  | .grp _ => 0
set_option maxRecDepth 3000 in
theorem outV_snoc (s : List UInt8) (ms : List Int) (l : List Tok) (t : Tok) : outV s ms (l ++ [t]) = outV s ms l ++ toldV (strV s ms) t := by simp [outV]
set_option maxRecDepth 3000 in
theorem builder_grows {T e : TypeId} {B b : Nat} {bs : List Value} {w w' : World} (h : Lib.IsBuilder T e B b bs w) (hg : Grows w w') : Lib.IsBuilder T e B b bs w' := by
  have key : ∀ p, Lib.BuilderAt T e B b p bs w → Lib.BuilderAt T e B b p bs w' := by
    rintro p ⟨hB, v, hb, hown, hne⟩
    refine ⟨hB, v, ?_, own_growsG hown hg, hne⟩
    obtain ⟨m, rfl⟩ := hg
    rw [heap_more w m b (Array.getElem?_eq_some_iff.1 hb).1]; exact hb
  exact h.imp (key _) (key _)
def Fits (l : List Tok) (N : Nat) : Prop := ∀ t ∈ l, longT t ≤ N
set_option maxRecDepth 3000 in
theorem outV_len (s : List UInt8) (ms : List Int) (l : List Tok) (N : Nat) (h : Fits l N) (hs : s.length ≤ N) : (outV s ms l).length ≤ l.length * N := by
  induction l with
  | nil => simp [outV]
  | cons t l ih =>
    have h1 := ih (fun x hx => h x (by simp [hx]))
    have h2 : (toldV (strV s ms) t).length ≤ N := by
      cases t with
      | text x => exact h (.text x) (by simp)
      | grp n => exact Nat.le_trans (strV_len s ms n) hs
    have h3 : outV s ms (t :: l) = toldV (strV s ms) t ++ outV s ms l := by simp [outV]
    rw [h3, List.length_append, List.length_cons, Nat.succ_mul]; omega
set_option maxRecDepth 100000 in
set_option maxHeartbeats 2000000 in
theorem expand_some (g : Nat) (l : List Tok) (s : List UInt8) (ms : List Int) (w : World) (h : IsTpl w g l) (hsm : Small l) (hl : l.length ≤ 100000) (hf : Fits l 1000000) (hm : ms.length = 20) (hs : s.length ≤ 1000000) : Calls Tryz.prog 17 #[.pointer (some ⟨g, 0, none⟩), .string (tx s), .agg (nums ms)] w fun e w' => e = .returned (.string (tx (outV s ms l))) ∧ Grows w w' := by
  have hsz := nums_size ms
  rw [hm] at hsz
  have h1c := nums_one ms
  obtain ⟨A, cap, h1, h2, h3, h4, h5⟩ := h
  have h2 : InHeap g w := h2
  have H5 := Lib.hid h5
  have HM := Lib.hid hm
  clear h5 hm
  go_enter Tryz.func17, Tryz.ntmps17
  go_wp2_with fail
  go_loopg [9, 17] l.length (fun q _ v17 wr => ∃ i : Nat, q + i = l.length ∧ v17 = .int .i64 i ∧ Lib.IsBuilder 66 5 (w.heap.size + 1) (w.heap.size + 1) (Lib.byteCells (outV s ms (l.take i))) wr ∧ Below (w.heap.size + 1) (w.alloc (.cells (nums ms) 60)) wr)
  case atStart =>
    refine ⟨0, by omega, rfl, .inl ⟨Nat.le_refl _, .slice none 0 0, ?_, World.ownsRow_nil _ _ _ _, by simp [Value.ownBlock]⟩, (Below.refl _ _).alloc (by simp) _⟩
    have := World.alloc_heap_new (w.alloc (.cells (nums ms) 60)) (.cells #[.pointer none, .slice none 0 0] 66)
    rw [show (w.alloc (.cells (nums ms) 60)).heap.size = w.heap.size + 1 by simp] at this
    exact this
  case round =>
    obtain ⟨i, hq, rfl, hI, hB⟩ := hrel
    have HQ := Lib.hid hq
    have hil : i ≤ l.length := by omega
    clear hq
    have hG : Grows (w.alloc (.cells (nums ms) 60)) wr := Grows.of_below (by simpa using hB)
    have hblk : blk wr w.heap.size = nums ms := by
      obtain ⟨m, rfl⟩ := hG
      simp [go_sem]
    have hsz2 := hB.size
    have HG := Lib.hid hG
    clear hG
    by_cases hi : i < l.length
    · have i0 : (0 : Int) ≤ (i : Int) := by omega
      have i1 : (i : Int) < (l.length : Int) := by omega
      obtain ⟨b, o, rfl, hb, hc⟩ := (H5.out.grows (((Grows.refl w).alloc _).trans HG.out)).at_ (j := i) (by rw [tl_length]; exact hi)
      have hb : InHeap b wr := hb
      have hv : (tl l)[i]'(by rw [tl_length]; exact hi) = tokVal l[i] := by simp [tl]
      rw [hv] at hc
      have hmem := List.getElem_mem hi
      have hst : outV s ms (l.take (i + 1)) = outV s ms (l.take i) ++ toldV (strV s ms) l[i] := by
        rw [List.take_add_one, List.getElem?_eq_getElem hi, Option.toList_some, outV_snoc]
      have hlo := outV_len s ms (l.take i) 1000000 (fun t ht => hf t (List.mem_of_mem_take ht)) hs
      have hlo2 : (outV s ms (l.take i)).length ≤ 100000000000 := by
        have : (l.take i).length ≤ 100000 := by simp; omega
        have := Nat.mul_le_mul_right 1000000 this
        omega
      have HST := Lib.hid hst
      clear hst hv hlo
      cases ht : l[i] with
      | text x =>
        rw [ht] at hc hmem HST
        have hx := hf _ hmem
        simp only [longT] at hx
        unfold tokVal at hc
        simp only [] at hc
        clear ht hmem
        generalize outV s ms (l.take i) = out at *
        go_wp2_with fail
        (with_reducible refine (told_text x s ms _).mono ?_)
        rintro e w1 ⟨rfl, hg1⟩
        have hI1 := builder_grows hI hg1
        have hs1 := hg1.below.size
        go_wp2_with fail
        (with_reducible refine (writeString_any (w.heap.size + 1) (w.heap.size + 1) _ (tx x) _ hI1 (by rw [Lib.byteCells_length, tx_size]; omega) (by simp at hsz2; omega)).mono ?_)
        rintro e w2 ⟨rfl, hI2, hB2⟩
        have hB3 := below_grows hB (by simp) hg1
        go_wp2_with fail
        go_roundg (gk - 1)
        case measure => have := HQ.out; omega
        case rel =>
          refine ⟨i + 1, by have := HQ.out; omega, by go_num, .inr ?_, hB3.trans hB2⟩
          rw [HST.out, Lib.byteCells_append]
          exact hI2
      | grp n =>
        rw [ht] at hc hmem HST
        have hn9 := hsm n hmem
        have hsl := strV_len s ms n
        unfold tokVal at hc
        simp only [] at hc
        clear ht hmem
        generalize outV s ms (l.take i) = out at *
        go_wp2_with fail
        (with_reducible refine (told_group n s ms _ hn9 HM.out hs).mono ?_)
        rintro e w1 ⟨rfl, hg1⟩
        have hI1 := builder_grows hI hg1
        have hs1 := hg1.below.size
        go_wp2_with fail
        (with_reducible refine (writeString_any (w.heap.size + 1) (w.heap.size + 1) _ (tx (strV s ms n)) _ hI1 (by rw [Lib.byteCells_length, tx_size]; omega) (by simp at hsz2; omega)).mono ?_)
        rintro e w2 ⟨rfl, hI2, hB2⟩
        have hB3 := below_grows hB (by simp) hg1
        go_wp2_with fail
        go_roundg (gk - 1)
        case measure => have := HQ.out; omega
        case rel =>
          refine ⟨i + 1, by have := HQ.out; omega, by go_num, .inr ?_, hB3.trans hB2⟩
          rw [HST.out, Lib.byteCells_append]
          exact hI2
    · have i1 : ¬(i : Int) < (l.length : Int) := by omega
      have hti : l.take i = l := List.take_of_length_le (by omega)
      rw [hti] at hI
      clear hti
      go_wp2_with fail
      (with_reducible refine (Tryz.Builder_String_any (w.heap.size + 1) (w.heap.size + 1) _ _ hI (by simp at hsz2; omega)).mono ?_)
      rintro e w1 ⟨rfl, hB1⟩
      have hG1 := (Grows.refl w).alloc (.cells (nums ms) 60)
      have hB2 := hB.trans hB1
      go_wp2_with fail
      go_ret
      exact ⟨rfl, hG1.trans (Grows.of_below (by simpa using hB2))⟩
end Go.Proofs.YtkomggeionofbaaGreatDoor
