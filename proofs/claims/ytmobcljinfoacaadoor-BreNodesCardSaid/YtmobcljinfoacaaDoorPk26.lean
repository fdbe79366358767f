/-
  strings.TrimLeft at a set of plain bytes.
-/
import Derived.Test.YtmobcljinfoacaaDoorPk03
import Derived.Test.YtmobcljinfoacaaDoorPk19
import Derived.Test.YtmobcljinfoacaaDoorPk14
import Derived.Deep.LoopGhost
namespace Go.Proofs.YtmobcljinfoacaaDoor
open Go.RowKit

set_option maxRecDepth 3000 in
theorem rowAs : RowOf Tryd.prog 99 256 := ⟨_, Tryd.underlying99, rfl, by kernel_rfl⟩
set_option maxRecDepth 3000 in
theorem zeroAs (w : World) : (zeroValue 99).run Tryd.prog w = .ok (.agg (Array.replicate 256 (.bool false))) w := by kernel_rfl
def stAs (x v : Value) : Sem Unit := Instr.storeAt 99 x v
set_option maxRecDepth 3000 in
theorem stAs_eq (x v : Value) : Instr.storeAt 99 x v = stAs x v := rfl
set_option maxRecDepth 3000 in
theorem storeAs (w : World) (g o : Nat) (c : Array Value) : (stAs (.pointer (some ⟨g, o, none⟩)) (.agg c)).run Tryd.prog w = storePart Tryd.prog w 99 g o c := rfl
set_option maxRecDepth 3000 in
theorem storeAs_if (w : World) (g o : Nat) (c : Array Value) (h : OneCells c) : storePart Tryd.prog w 99 g o c = if 0 < 256 ∧ o + 256 ≤ (blk w g).size ∧ c.size = 256 then .ok () (setBlk w g (over (blk w g) o c)) else storePartOdd Tryd.prog w 99 g o c := storePart_if w _ g o 256 c rowAs h
/-- A set's cells tell what is in it. -/
def SetAt (w : World) (b : Nat) (p : UInt8 → Bool) : Prop := ∀ c : UInt8, w.cell? ⟨b, c.toNat, none⟩ = some (.bool (p c))
attribute [local go_sem] tx_bt tx_from
set_option maxRecDepth 3000 in
theorem drop_eq (l : List UInt8) (k : Nat) (h : k < l.length) : l.drop k = l[k] :: l.drop (k + 1) := List.drop_eq_getElem_cons h
set_option maxRecDepth 3000 in
theorem trimAscii (l : List UInt8) (b : Nat) (p : UInt8 → Bool) (w : World) (hb : SetAt w b p) (hl : l.length ≤ 1000000) :
    Calls Tryd.prog 52 #[.string (tx l), .pointer (some ⟨b, 0, none⟩)] w fun e w' => e = .returned (.string (tx (l.dropWhile p))) ∧ w = w' := by
  go_enter Tryd.func52, Tryd.ntmps52
  go_wp2_with fail
  go_loopg [0] (l.length + 1) (fun q v wr => ∃ r : List UInt8, q = r.length + 1 ∧ r.length ≤ l.length ∧ v = .string (tx r) ∧ l.dropWhile p = r.dropWhile p ∧ wr = w)
  case atStart => exact ⟨l, rfl, Nat.le_refl _, rfl, rfl, rfl⟩
  case round =>
    obtain ⟨r, hq, hrl, rfl, hd, rfl⟩ := hrel
    have HQ := Lib.hid hq
    have HD := Lib.hid hd
    have HS := Lib.hid hb
    clear hq hd hb
    cases r with
    | nil =>
      go_wp2_with fail
      go_ret
      exact ⟨by rw [HD.out]; rfl, rfl⟩
    | cons c r =>
      have hl0 : 0 < (c :: r).length := by simp
      have hz := HS.out c
      go_wp2_with fail
      (with_reducible refine (Tryd.asciiSet_contains b c _ _ hz).mono ?_)
      rintro e w1 ⟨rfl, rfl⟩
      clear hz
      have hx : (tx (c :: r)).extract 1 (r.length + 1) = tx r := by
        have := tx_from (c :: r) 1
        simpa using this
      cases hp : p c with
      | true =>
        have h2 : Hid (l.dropWhile p = r.dropWhile p) := Lib.hid (by rw [HD.out, List.dropWhile_cons, if_pos hp])
        clear hp HD
        go_wp2_with fail
        go_roundg (gk - 1)
        case measure => have := HQ.out; simp at this; omega
        case rel => exact ⟨r, by have := HQ.out; simp at this; omega, by simp at hrl; omega, rfl, h2.out, rfl⟩
      | false =>
        have h2 : Hid (l.dropWhile p = c :: r) := Lib.hid (by rw [HD.out, List.dropWhile_cons, if_neg (by rw [hp]; decide)])
        clear hp HD
        go_wp2_with fail
        go_ret
        exact ⟨by rw [h2.out]; rfl, rfl⟩
attribute [local go_sem ↓] zeroAs stAs_eq
attribute [local go_sem] storeAs storeAs_if Lib.setCells_size
set_option maxRecDepth 3000 in
theorem setCells_one (l : List UInt8) : OneCells (Lib.setCells l) := by
  unfold OneCells
  rw [Array.all_eq_true_iff_forall_mem, Lib.setCells_eq]
  intro v hv
  rw [Array.mem_map] at hv
  obtain ⟨j, _, rfl⟩ := hv
  rfl
attribute [local go_sem] setCells_one
set_option maxRecDepth 3000 in
theorem over_set (l : List UInt8) : over (Array.replicate 256 (.bool false)) 0 (Lib.setCells l) = Lib.setCells l := by
  apply Array.toList_inj.1
  have h1 : (Lib.setCells l).size = 256 := Lib.setCells_size l
  simp [over, h1]
attribute [local go_sem] over_set
set_option maxRecDepth 3000 in
theorem set_laid (cs : List UInt8) (w : World) (o : Obj) (t : TypeId) : SetAt ((w.alloc o).alloc (.cells (Lib.setCells cs) t)) (w.heap.size + 1) cs.contains := fun c => by
  rw [cell_of_row _ _ _ _ t (0, 0) (by have := World.alloc_heap_new (w.alloc o) (.cells (Lib.setCells cs) t); simpa using this)]
  exact Lib.setCells_at cs c
set_option maxRecDepth 3000 in
theorem trimSet (cs l : List UInt8) (c0 c1 : UInt8) (cr : List UInt8) (hcs : cs = c0 :: c1 :: cr) (hc : cs.all (fun c => decide (c.toNat < 128)) = true) (hcl : cs.length ≤ 100) (hl : l.length ≤ 1000000) (w : World) :
    Calls Tryd.prog 42 #[.string (tx l), .string (tx cs)] w fun e w' => e = .returned (.string (tx (l.dropWhile cs.contains))) ∧ Grows w w' := by
  have h2 : 2 ≤ cs.length := by rw [hcs]; simp
  have hne : (tx cs).toList.isEmpty = false := by rw [ByteArray.toList_eq, tx_data, hcs]; rfl
  have hn1 : ((cs.length : Int) == 1) = false := by rw [beq_eq_false_iff_ne]; omega
  have hcc : ∀ (j : Nat) b, cs[j]? = some b → b.toNat < 128 := fun j b hb => by
    have := List.all_eq_true.1 hc b (List.mem_of_getElem? hb)
    simpa using this
  have HC := Lib.hid hcc
  have HE := Lib.hid hcs
  clear hcs hc hcc
  cases l with
  | nil =>
    have he : (tx ([] : List UInt8)).toList.isEmpty = true := by rw [ByteArray.toList_eq]; rfl
    go_enter Tryd.func42, Tryd.ntmps42
    go_wp2_with fail
    go_ret
    exact ⟨rfl, Grows.refl _⟩
  | cons a l =>
    have he : (tx (a :: l)).toList.isEmpty = false := by rw [ByteArray.toList_eq, tx_data]; rfl
    go_enter Tryd.func42, Tryd.ntmps42
    go_wp2_with fail
    (with_reducible refine (Tryd.strings_makeASCIISet zeroAs (tx cs) _ (by rw [tx_size]; omega) (by rw [tx_data]; exact HC.out)).mono ?_)
    rw [tx_data]
    rintro e w1 ⟨rfl, rfl⟩
    go_wp2_with fail
    (with_reducible refine (trimAscii (a :: l) _ cs.contains _ (set_laid cs w _ _) hl).mono ?_)
    rintro e w1 ⟨rfl, rfl⟩
    go_wp2_with fail
    go_ret
    exact ⟨rfl, by repeat' first | exact Grows.refl _ | refine Grows.more ?_ _ | refine Grows.alloc ?_ _ | refine Grows.drew ?_⟩
end Go.Proofs.YtmobcljinfoacaaDoor
