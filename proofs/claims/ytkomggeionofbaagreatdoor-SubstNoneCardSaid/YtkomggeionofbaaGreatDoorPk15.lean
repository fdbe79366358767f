/-
  Several texts of the proof: Trim, BreNum, BreSelf, MatW.
-/
import Derived.Test.YtkomggeionofbaaGreatDoorPk00
import Derived.Test.YtkomggeionofbaaGreatDoorPk13
import Derived.Test.YtkomggeionofbaaGreatDoorPk06
import Derived.Deep.LoopGhost
import Derived.Test.YtkomggeionofbaaGreatDoorPk14
import Derived.Laws.RangeString
import Derived.Test.YtkomggeionofbaaGreatDoorPk10
import Derived.Test.YtkomggeionofbaaGreatDoorPk01
import Derived.Test.YtkomggeionofbaaGreatDoorPk12
import Derived.Shelf.Spec.TrailingZeros
import Derived.Laws.Bits64b
set_option linter.unusedSimpArgs false
set_option linter.unusedVariables false
/-
  strings.TrimLeft at a set of plain bytes.
-/
namespace Go.Proofs.YtkomggeionofbaaGreatDoor
open Go.RowKit

set_option maxRecDepth 3000 in
theorem rowAs : RowOf Tryz.prog 85 256 := ⟨_, Tryz.underlying85, rfl, by kernel_rfl⟩
set_option maxRecDepth 3000 in
theorem zeroAs (w : World) : (zeroValue 85).run Tryz.prog w = .ok (.agg (Array.replicate 256 (.bool false))) w := by kernel_rfl
def stAs (x v : Value) : Sem Unit := Instr.storeAt 85 x v
set_option maxRecDepth 3000 in
theorem stAs_eq (x v : Value) : Instr.storeAt 85 x v = stAs x v := rfl
set_option maxRecDepth 3000 in
theorem storeAs (w : World) (g o : Nat) (c : Array Value) : (stAs (.pointer (some ⟨g, o, none⟩)) (.agg c)).run Tryz.prog w = storePart Tryz.prog w 85 g o c := rfl
set_option maxRecDepth 3000 in
theorem storeAs_if (w : World) (g o : Nat) (c : Array Value) (h : OneCells c) : storePart Tryz.prog w 85 g o c = if 0 < 256 ∧ o + 256 ≤ (blk w g).size ∧ c.size = 256 then .ok () (setBlk w g (over (blk w g) o c)) else storePartOdd Tryz.prog w 85 g o c := storePart_if w _ g o 256 c rowAs h
/-- A set's cells tell what is in it. -/
def SetAt (w : World) (b : Nat) (p : UInt8 → Bool) : Prop := ∀ c : UInt8, w.cell? ⟨b, c.toNat, none⟩ = some (.bool (p c))
attribute [local go_sem] tx_bt tx_from
set_option maxRecDepth 3000 in
theorem trimAscii (l : List UInt8) (b : Nat) (p : UInt8 → Bool) (w : World) (hb : SetAt w b p) (hl : l.length ≤ 1000000) :
    Calls Tryz.prog 102 #[.string (tx l), .pointer (some ⟨b, 0, none⟩)] w fun e w' => e = .returned (.string (tx (l.dropWhile p))) ∧ w = w' := by
  go_enter Tryz.func102, Tryz.ntmps102
  go_wp2_with fail
  go_loopg [0] (l.length + 1) (fun q v wr => ∃ r : List UInt8, q = r.length + 1 ∧ r.length ≤ l.length ∧ v = .string (tx r) ∧ l.dropWhile p = r.dropWhile p ∧ wr = w)
  case atStart => exact ⟨l, rfl, Nat.le_refl _, rfl, rfl, rfl⟩
  case round =>
    obtain ⟨r, hq, hrl, rfl, hd, rfl⟩ := hrel
    have HQ := Lib.hid hq
    have HD := Lib.hid hd
    have HS := Lib.hid hb
    clear hq hd hb
    cases r with
    | nil =>
      go_wp2_with fail
      go_ret
      exact ⟨by rw [HD.out]; rfl, rfl⟩
    | cons c r =>
      have hl0 : 0 < (c :: r).length := by simp
      have hz := HS.out c
      go_wp2_with fail
      (with_reducible refine (Tryz.asciiSet_contains b c _ _ hz).mono ?_)
      rintro e w1 ⟨rfl, rfl⟩
      clear hz
      have hx : (tx (c :: r)).extract 1 (r.length + 1) = tx r := by
        have := tx_from (c :: r) 1
        simpa using this
      cases hp : p c with
      | true =>
        have h2 : Hid (l.dropWhile p = r.dropWhile p) := Lib.hid (by rw [HD.out, List.dropWhile_cons, if_pos hp])
        clear hp HD
        go_wp2_with fail
        go_roundg (gk - 1)
        case measure => have := HQ.out; simp at this; omega
        case rel => exact ⟨r, by have := HQ.out; simp at this; omega, by simp at hrl; omega, rfl, h2.out, rfl⟩
      | false =>
        have h2 : Hid (l.dropWhile p = c :: r) := Lib.hid (by rw [HD.out, List.dropWhile_cons, if_neg (by rw [hp]; decide)])
        clear hp HD
        go_wp2_with fail
        go_ret
        exact ⟨by rw [h2.out]; rfl, rfl⟩
attribute [local go_sem ↓] zeroAs stAs_eq
attribute [local go_sem] storeAs storeAs_if Lib.setCells_size
set_option maxRecDepth 3000 in
theorem setCells_one (l : List UInt8) : OneCells (Lib.setCells l) := by
  unfold OneCells
  rw [Array.all_eq_true_iff_forall_mem, Lib.setCells_eq]
  intro v hv
  rw [Array.mem_map] at hv
  obtain ⟨j, _, rfl⟩ := hv
  rfl
attribute [local go_sem] setCells_one
set_option maxRecDepth 3000 in
theorem over_set (l : List UInt8) : over (Array.replicate 256 (.bool false)) 0 (Lib.setCells l) = Lib.setCells l := by
  apply Array.toList_inj.1
  have h1 : (Lib.setCells l).size = 256 := Lib.setCells_size l
  simp [over, h1]
attribute [local go_sem] over_set
set_option maxRecDepth 3000 in
theorem set_laid (cs : List UInt8) (w : World) (o : Obj) (t : TypeId) : SetAt ((w.alloc o).alloc (.cells (Lib.setCells cs) t)) (w.heap.size + 1) cs.contains := fun c => by
  rw [cell_of_row _ _ _ _ t (0, 0) (by have := World.alloc_heap_new (w.alloc o) (.cells (Lib.setCells cs) t); simpa using this)]
  exact Lib.setCells_at cs c
set_option maxRecDepth 3000 in
theorem trimSet (cs l : List UInt8) (c0 c1 : UInt8) (cr : List UInt8) (hcs : cs = c0 :: c1 :: cr) (hc : cs.all (fun c => decide (c.toNat < 128)) = true) (hcl : cs.length ≤ 100) (hl : l.length ≤ 1000000) (w : World) :
    Calls Tryz.prog 73 #[.string (tx l), .string (tx cs)] w fun e w' => e = .returned (.string (tx (l.dropWhile cs.contains))) ∧ Grows w w' := by
  have h2 : 2 ≤ cs.length := by rw [hcs]; simp
  have hne : (tx cs).toList.isEmpty = false := by rw [ByteArray.toList_eq, tx_data, hcs]; rfl
  have hn1 : ((cs.length : Int) == 1) = false := by rw [beq_eq_false_iff_ne]; omega
  have hcc : ∀ (j : Nat) b, cs[j]? = some b → b.toNat < 128 := fun j b hb => by
    have := List.all_eq_true.1 hc b (List.mem_of_getElem? hb)
    simpa using this
  have HC := Lib.hid hcc
  have HE := Lib.hid hcs
  clear hcs hc hcc
  cases l with
  | nil =>
    have he : (tx ([] : List UInt8)).toList.isEmpty = true := by rw [ByteArray.toList_eq]; rfl
    go_enter Tryz.func73, Tryz.ntmps73
    go_wp2_with fail
    go_ret
    exact ⟨rfl, Grows.refl _⟩
  | cons a l =>
    have he : (tx (a :: l)).toList.isEmpty = false := by rw [ByteArray.toList_eq, tx_data]; rfl
    go_enter Tryz.func73, Tryz.ntmps73
    go_wp2_with fail
    (with_reducible refine (Tryz.strings_makeASCIISet zeroAs (tx cs) _ (by rw [tx_size]; omega) (by rw [tx_data]; exact HC.out)).mono ?_)
    rw [tx_data]
    rintro e w1 ⟨rfl, rfl⟩
    go_wp2_with fail
    (with_reducible refine (trimAscii (a :: l) _ cs.contains _ (set_laid cs w _ _) hl).mono ?_)
    rintro e w1 ⟨rfl, rfl⟩
    go_wp2_with fail
    go_ret
    exact ⟨rfl, by repeat' first | exact Grows.refl _ | refine Grows.more ?_ _ | refine Grows.alloc ?_ _ | refine Grows.drew ?_⟩
end Go.Proofs.YtkomggeionofbaaGreatDoor

/-
  Patterns: a number, and a byte itself, walked.
-/
namespace Go.Proofs.YtkomggeionofbaaGreatDoor
open Go.RowKit

def digs : List UInt8 := [48, 49, 50, 51, 52, 53, 54, 55, 56, 57]
set_option maxRecDepth 3000 in
theorem digs_is (c : UInt8) : digs.contains c = isDig c := by
  have h : ∀ k : UInt8, c = k ↔ c.toNat = k.toNat := fun k => UInt8.toNat_inj.symm
  rw [Bool.eq_iff_iff]
  simp [digs, isDig, h]
  omega
set_option maxRecDepth 3000 in
theorem dropWhile_digs (l : List UInt8) : l.dropWhile digs.contains = l.dropWhile isDig := congrArg (fun p => l.dropWhile p) (funext digs_is)
set_option maxRecDepth 3000 in
theorem take_all {l : List UInt8} {c : UInt8} (h : c ∈ l.takeWhile isDig) : isDig c = true := by
  induction l with
  | nil => cases h
  | cons a l ih =>
    rw [List.takeWhile_cons] at h
    split at h
    · rename_i ha
      rcases List.mem_cons.1 h with rfl | h
      · exact ha
      · exact ih h
    · cases h
set_option maxRecDepth 3000 in
theorem trimDigs (l r : List UInt8) (hl : l.length ≤ 1000000) (hr : l.dropWhile isDig = r) (w : World) :
    Calls Tryz.prog 73 #[.string (tx l), .string ⟨#[48, 49, 50, 51, 52, 53, 54, 55, 56, 57]⟩] w fun e w' => e = .returned (.string (tx r)) ∧ Grows w w' := by
  have := trimSet digs l 48 49 _ rfl (by decide) (by decide) hl w
  rw [dropWhile_digs, hr] at this
  exact this
set_option maxRecDepth 3000 in
theorem numV_snoc (l : List UInt8) (c : UInt8) : numV (l ++ [c]) = min (10 * numV l + (c.toNat - 48)) 256 := by simp [numV, List.foldl_append]
set_option maxRecDepth 3000 in
theorem numV_le (l : List UInt8) : numV l ≤ 256 := by
  rcases List.eq_nil_or_concat l with rfl | ⟨a, c, rfl⟩
  · decide
  · rw [List.concat_eq_append, numV_snoc]; exact Nat.min_le_right _ _
set_option maxRecDepth 3000 in
theorem numV_take (d : List UInt8) (i : Nat) (h : i < d.length) (h2 : 48 ≤ d[i].toNat) : ((numV (d.take (i + 1)) : Nat) : Int) = min (10 * (numV (d.take i) : Int) + ((d[i].toNat : Int) - 48)) 256 := by
  rw [List.take_add_one, List.getElem?_eq_getElem h]
  simp only [Option.toList_some]
  rw [numV_snoc]
  omega
section
variable {base g : Nat} {w w' : World} {tv ov : Value} {s : PS}
set_option maxRecDepth 3000 in
set_option maxHeartbeats 1000000 in
theorem number_at (h : Pa base w g tv ov s) (d r : List UInt8) (hs : s.left = d ++ r) (hd : s.left.takeWhile isDig = d) (hr : s.left.dropWhile isDig = r) :
    Calls Tryz.prog 47 #[.pointer (some ⟨g, 0, none⟩)] w fun e w' => e = .returned (.tuple #[.int .i64 (numV d), .bool (!d.isEmpty)]) ∧ Pa base w' g tv ov { s with left := r } ∧ Chg (fun b => b = g) w w' := by
  have ig := h.inh
  obtain ⟨q0, -⟩ := h.six
  have hl := h.left
  have H := Lib.hid h
  have hdig : Hid (∀ c ∈ d, 48 ≤ c.toNat ∧ c.toNat ≤ 57) := Lib.hid (fun c hc => by
    rw [← hd] at hc
    have := take_all hc
    simpa [isDig] using this)
  have htr := hr
  rw [hs] at q0 htr hl
  have hx : (tx (d ++ r)).extract 0 d.length = tx d := by
    rw [tx_mid]; simp
  have hlen : (d ++ r).length = d.length + r.length := by simp
  have HS := Lib.hid hs
  clear h hd hr hs
  go_enter Tryz.func47, Tryz.ntmps47
  go_wp2_with fail
  (with_reducible refine (trimDigs (d ++ r) r hl htr _).mono ?_)
  rintro e w1 ⟨rfl, hg⟩
  have H1 := Lib.hid (H.out.grows hg)
  have C1 := Lib.hid (Chg.of_grows (p := fun b => b = g) hg)
  have i1 := H1.out.inh
  have f1 := H1.out.free
  obtain ⟨z0, -⟩ := H1.out.six
  rw [HS.out] at z0
  clear q0 ig hg htr H
  go_wp2_with fail
  have e1 : ((d.length : Int) + r.length) - r.length = d.length := by omega
  have hl2 : d.length + r.length ≤ 1000000 := by rw [hlen] at hl; exact hl
  go_quiet (fail)
  go_wp2_with fail
  have hP := (H1.out.grows ((Grows.refl w1).drewN nq)).setLeft r (by rw [HS.out]; simp) (tx r) rfl
  have hC := (C1.out.trans (Chg.of_grows ((Grows.refl w1).drewN nq))).trans (chg_cell (w1.drewN nq) g 0 (.string (tx r)))
  have P2 := Lib.hid hP
  have C2 := Lib.hid hC
  have hs2 : ((w1.drewN nq).setCell ⟨g, 0, none⟩ (.string (tx r))).heap.size = w1.heap.size := by simp
  generalize (w1.drewN nq).setCell ⟨g, 0, none⟩ (.string (tx r)) = w2 at *
  clear hP hC H1 C1 i1 f1 z0 e1 hx
  go_loopg [6, 8] (d.length + 1) (fun q v6 _ wr => ∃ i : Nat, q + i = d.length + 1 ∧ i ≤ d.length ∧ v6 = .int .i64 (numV (d.take i)) ∧ wr = w2.iter (tx d) i)
  case atStart => exact ⟨0, by omega, by omega, rfl, rfl⟩
  case round =>
    obtain ⟨i, hq, hi, rfl, rfl⟩ := hrel
    have HQ := Lib.hid hq
    clear hq
    by_cases hid : i < d.length
    · have hcb := hdig.out _ (List.getElem_mem hid)
      have hnx := fun ty => run_next_ascii (P := Tryz.prog) w2 (tx d) i ty (by simp [hid]) (by rw [tx_get]; omega)
      have hg : ((tx d)[i]'(by simp [hid])).toNat = d[i].toNat := by rw [tx_get]
      rw [hg, hs2] at hnx
      have hnv := numV_le (d.take i)
      have hst := Lib.hid (numV_take d i hid hcb.1)
      generalize d[i].toNat = c at *
      generalize numV (d.take i) = m at *
      obtain ⟨h48, h57⟩ := hcb
      have b1 : (48 : Int) ≤ (c : Int) := by omega
      have b2 : (c : Int) ≤ 57 := by omega
      have b3 : (m : Int) ≤ 256 := by omega
      have b4 : (0 : Int) ≤ (m : Int) := by omega
      clear hg
      go_wp2_with fail
      go_roundg (gk - 1)
      case measure => have := HQ.out; omega
      case rel => exact ⟨i + 1, by have := HQ.out; omega, by omega, by rw [hst.out], rfl⟩
    · have hie : i = d.length := by omega
      subst hie
      have hnx := fun ty => run_next_end (P := Tryz.prog) w2 (tx d) d.length ty (by simp)
      rw [hs2] at hnx
      rw [List.take_length]
      have he : (tx d).toList.isEmpty = d.isEmpty := by rw [ByteArray.toList_eq, tx_data]
      go_wp2_with fail
      go_ret2
      exact ⟨by simp [he], P2.out.grows ((Grows.refl _).alloc _), C2.out.trans (Chg.of_grows ((Grows.refl _).alloc _))⟩
end
end Go.Proofs.YtkomggeionofbaaGreatDoor

/-
  Patterns: a byte that stands for itself; how a part that was read is handed back.
-/
namespace Go.Proofs.YtkomggeionofbaaGreatDoor
open Go.RowKit

set_option maxRecDepth 3000 in
theorem chg_blk {p : Nat → Prop} {w w' : World} (h : Chg p w w') {b : Nat} (hb : b < w.heap.size) (hp : ¬ p b) : blk w' b = blk w b := by
  unfold blk; rw [h.block b hb hp]
set_option maxRecDepth 3000 in
theorem chg_row {w : World} {g : Nat} {c : Array Value} : Chg (fun b => b = g) w (setBlk w g c) := by
  refine ⟨rfl, rfl, rfl, by simp, fun b _ hp => ?_⟩
  have hne : g ≠ b := fun e => hp e.symm
  show (w.heap.modify g _)[b]? = w.heap[b]?
  rw [Array.getElem?_modify, if_neg hne]
section
variable {base g rb : Nat} {W w w' w2 : World} {tv ov ov' v : Value} {s t : PS} {q : Nat → Prop} {y : Nk} {c : Array Value}
set_option maxRecDepth 3000 in
theorem Pa.chg (h : Pa base w g tv ov s) (hc : Chg q w w') (hq : ∀ b, PaK g ov b → ¬ q b) : Pa base w' g tv ov s := by
  refine ⟨(chg_blk hc h.inh (hq g (.inl rfl))).trans h.cells, ?_, h.ne, h.low, h.parts, h.groups, h.left, h.op⟩
  obtain ⟨h1, h2⟩ := h.own
  refine ⟨h1, h2.elim .inl ?_⟩
  rintro ⟨e, cap, cur, rfl, hb2, hh, r⟩
  exact .inr ⟨e, cap, cur, rfl, hb2, (hc.block e (Array.getElem?_eq_some_iff.1 hh).1 (hq e (.inr rfl))).trans hh, r⟩
set_option maxRecDepth 3000 in
theorem nk_ret (hP : Pa base w2 g tv ov' t) (hst : StepP (PaK g ov) (PaK g ov') W w2) (hrb : W.heap.size ≤ rb) (hrK : ¬ PaK g ov' rb) (hN : NkAt (fun b => (W.heap.size ≤ b ∧ ¬ PaK g ov' b) ∧ b ≠ rb) w2 v y) :
    Pa base (setBlk w2 rb c) g tv ov' t ∧ StepP (PaK g ov) (PaK g ov') W (setBlk w2 rb c) ∧ NkAt (fun b => W.heap.size ≤ b ∧ ¬ PaK g ov' b) (setBlk w2 rb c) v y := by
  have hc : Chg (fun b => b = rb) w2 (setBlk w2 rb c) := chg_row
  refine ⟨hP.chg hc fun b hb e => hrK (e ▸ hb), ⟨chg_late hst.chg hc fun x hx e => by omega, hst.new⟩, (hN.chg hc fun b _ h => h.2).mono fun b _ h => h.1⟩
set_option maxRecDepth 3000 in
theorem Pa.fresh (h : Pa base w g tv ov s) : ¬ PaK g ov w.heap.size := fun hb => Nat.lt_irrefl _ (h.own_lt hb)
set_option maxRecDepth 3000 in
/-- A leaf is handed back. -/
theorem leaf_ret (h : Pa base w g tv ov s) (hP : Pa base w2 g tv ov t) (hC : Chg (fun b => b = g) w w2) (x : NdV) : ∃ v ov', Ending.returned (.agg (ndC x (.slice none 0 0))) = .returned v ∧ Pa base (setBlk w2 w.heap.size c) g tv ov' t ∧ StepP (PaK g ov) (PaK g ov') w (setBlk w2 w.heap.size c) ∧ NkAt (fun b => w.heap.size ≤ b ∧ ¬ PaK g ov' b) (setBlk w2 w.heap.size c) v (x, .nil) := by
  obtain ⟨h1, h2, h3⟩ := nk_ret (c := c) hP (StepP.of_chg (hC.mono fun b _ e => (.inl e : PaK g ov b))) (Nat.le_refl w.heap.size) h.fresh (NkAt.leaf _ _ x)
  exact ⟨_, ov, rfl, h1, h2, h3⟩
attribute [local go_sem ↓] zeroNode bldNd_eq ldNode_eq stNode_eq
attribute [local go_sem] bld_kind bld_byte bld_set bld_n bld_star bld_times loadNode loadNode_if storeNode storeNode_if ndA_one_slice ndA_0 ndA_258 ndA_261 tx_bt tx_from
set_option maxRecDepth 3000 in
theorem tail_tx (a : UInt8) (l : List UInt8) : (tx (a :: l)).extract 1 (l.length + 1) = tx l := by
  have := tx_from (a :: l) 1
  simpa using this
set_option maxRecDepth 3000 in
set_option maxHeartbeats 1000000 in
theorem self_any (h : Pa base w g tv ov s) (a : UInt8) (l : List UInt8) (hl : s.left = a :: l) :
    Calls Tryz.prog 45 #[.pointer (some ⟨g, 0, none⟩)] w (NkPost base g tv ov w (selfV a.toNat { s with left := l })) := by
  have ig := h.inh
  obtain ⟨q0, -⟩ := h.six
  have ff := h.free
  rw [hl] at q0
  have hx := tail_tx a l
  have H := Lib.hid h
  have hP0 := Lib.hid (h.setLeft l (by rw [hl]; simp) (tx l) rfl)
  clear h hl
  by_cases hp : s.parts + 1 ≤ 200
  · have hV : Hid (selfV a.toNat { s with left := l } = some ((byteN a.toNat, .nil), { s with left := l, parts := s.parts + 1 })) := Lib.hid (by unfold selfV node1; rw [if_pos hp]; rfl)
    go_enter Tryz.func45, Tryz.ntmps45
    go_wp2_with fail
    have P1 := Lib.hid (hP0.out.grows ((Grows.refl _).alloc (.cells (ndA 0 0 noSet 0 0 0 (.slice none 0 0)) 80)))
    have hs1 : (w.setCell ⟨g, 0, none⟩ (.string (tx l))).heap.size = w.heap.size := by simp
    have C1 := Lib.hid ((chg_cell w g 0 (.string (tx l))).trans (Chg.of_grows ((Grows.refl (w.setCell ⟨g, 0, none⟩ (.string (tx l)))).alloc (.cells (ndA 0 0 noSet 0 0 0 (.slice none 0 0)) 80))))
    have hb1 : blk ((w.setCell ⟨g, 0, none⟩ (.string (tx l))).alloc (.cells (ndA 0 0 noSet 0 0 0 (.slice none 0 0)) 80)) w.heap.size = ndA 0 0 noSet 0 0 0 (.slice none 0 0) := blk_alloc_at _ _ _ _ hs1.symm
    generalize (w.setCell ⟨g, 0, none⟩ (.string (tx l))).alloc (.cells (ndA 0 0 noSet 0 0 0 (.slice none 0 0)) 80) = w1 at *
    have i1 : w.heap.size < w1.heap.size := Blk.inHeap hb1 (by simp [ndA_size])
    (with_reducible refine (node_ok P1.out hp 1 a.toNat noSet 0 0 0 none 0 0).mono ?_)
    rintro e w2 ⟨rfl, hP, hC⟩
    have hne : ¬ w.heap.size = g := fun e => Nat.lt_irrefl _ (e ▸ ig)
    have hb2 := (chg_blk hC i1 hne).trans hb1
    have i2 : InHeap w.heap.size w2 := Blk.inHeap hb2 (by simp [ndA_size])
    have HP := Lib.hid hP
    have HC := Lib.hid hC
    clear hP hC hb1
    go_wp2_with fail
    rw [hV.out]
    exact bodyPost_ret (results_node 2 rfl rfl (Blk.get _ hb2 (by simp [ndA_size])) (ndA_size _ _ _ _ _ _ _)) rfl (leaf_ret H.out HP.out (C1.out.trans HC.out) (byteN a.toNat))
  · have hV : Hid (selfV a.toNat { s with left := l } = none) := Lib.hid (by unfold selfV node1; rw [if_neg hp]; rfl)
    go_enter Tryz.func45, Tryz.ntmps45
    go_wp2_with fail
    have P1 := Lib.hid (hP0.out.grows ((Grows.refl _).alloc (.cells (ndA 0 0 noSet 0 0 0 (.slice none 0 0)) 80)))
    have C1 := Lib.hid ((chg_cell w g 0 (.string (tx l))).trans (Chg.of_grows ((Grows.refl (w.setCell ⟨g, 0, none⟩ (.string (tx l)))).alloc (.cells (ndA 0 0 noSet 0 0 0 (.slice none 0 0)) 80))))
    generalize (w.setCell ⟨g, 0, none⟩ (.string (tx l))).alloc (.cells (ndA 0 0 noSet 0 0 0 (.slice none 0 0)) 80) = w1 at *
    (with_reducible refine (node_no P1.out hp _ (ndA_one_slice _ _ _ _ _ _ _ _ _) (ndA_size _ _ _ _ _ _ _)).mono ?_)
    rintro e w2 ⟨rfl, hC⟩
    rw [hV.out]
    exact ⟨rfl, rfl, (C1.out.trans hC).mono fun b _ e => .inl e⟩
end
end Go.Proofs.YtkomggeionofbaaGreatDoor

/-
  Matches: places as bits, walked.
-/
namespace Go.Proofs.YtkomggeionofbaaGreatDoor
open Go.RowKit

/-- The words of places. -/
def wordsA (W : Nat) (P : Pl) : Array Value := (Array.range W).map fun j => .int .u64 (wordN P j : Nat)
set_option maxRecDepth 3000 in
theorem wordsA_size (W : Nat) (P : Pl) : (wordsA W P).size = W := by simp [wordsA]
set_option maxRecDepth 3000 in
theorem wordsA_get {W j : Nat} (P : Pl) (h : j < W) : (wordsA W P)[j]? = some (.int .u64 (wordN P j : Nat)) := by simp [wordsA, h]
set_option maxRecDepth 3000 in
theorem wordsA_set {W a : Nat} (P : Pl) : (wordsA W P).setIfInBounds (a / 64) (.int .u64 (wordN (addP P a) (a / 64) : Nat)) = wordsA W (addP P a) := by
  apply Array.ext_getElem?
  intro j
  rw [Array.getElem?_setIfInBounds, wordsA_size]
  by_cases hj : j < W
  · by_cases e : a / 64 = j
    · subst e
      rw [if_pos rfl, if_pos hj, wordsA_get _ hj]
    · rw [if_neg e, wordsA_get _ hj, wordsA_get _ hj, word_add_ne P a (fun h => e h.symm)]
  · have e1 : (wordsA W P)[j]? = none := Array.getElem?_eq_none (by rw [wordsA_size]; omega)
    have e2 : (wordsA W (addP P a))[j]? = none := Array.getElem?_eq_none (by rw [wordsA_size]; omega)
    rw [e1, e2]
    split
    · rename_i h; rw [if_neg (by omega)]
    · rfl
/-- Places lie at block b. -/
structure PlAt (w : World) (b W : Nat) (P : Pl) : Prop where
  eq : blk w b = wordsA W P
  pos : 0 < W
section
variable {w w' : World} {b W : Nat} {P : Pl}
set_option maxRecDepth 3000 in
theorem PlAt.zpos (h : PlAt w b W P) : 0 < (wordsA W P).size := by rw [wordsA_size]; exact h.pos
set_option maxRecDepth 3000 in
theorem PlAt.inh (h : PlAt w b W P) : InHeap b w := Blk.inHeap h.eq h.zpos
set_option maxRecDepth 3000 in
theorem PlAt.cell (h : PlAt w b W P) {j : Nat} (hj : j < W) : w.cell? ⟨b, j, none⟩ = some (.int .u64 (wordN P j : Nat)) := (Blk.cell h.eq h.zpos j).trans (wordsA_get P hj)
set_option maxRecDepth 3000 in
theorem PlAt.free (h : PlAt w b W P) (k : Nat) : w.frozen? ⟨b, k, none⟩ = false := Blk.free h.eq h.zpos k
set_option maxRecDepth 3000 in
theorem PlAt.grows (h : PlAt w b W P) (hg : Grows w w') : PlAt w' b W P := by
  have := h.inh
  obtain ⟨m, rfl⟩ := hg
  exact ⟨(blk_more _ _ _ this).trans h.eq, h.pos⟩
set_option maxRecDepth 3000 in
theorem PlAt.chg (h : PlAt w b W P) {q : Nat → Prop} (hc : Chg q w w') (hq : ¬ q b) : PlAt w' b W P := ⟨(chg_blk hc h.inh hq).trans h.eq, h.pos⟩
set_option maxRecDepth 3000 in
theorem PlAt.add (h : PlAt w b W P) (a : Nat) : PlAt (w.setCell ⟨b, a / 64, none⟩ (.int .u64 (wordN (addP P a) (a / 64) : Nat))) b W (addP P a) :=
  ⟨(pa_put h.eq h.zpos _ _).trans (wordsA_set P), h.pos⟩
end
abbrev plV (b W : Nat) : Value := .slice (some ⟨b, 0, none⟩) W W
set_option maxRecDepth 3000 in
theorem place_word {a W : Nat} (h : a < 64 * W) : a / 64 < W := by omega
set_option maxRecDepth 3000 in
theorem wrap_small {n : Int} (h0 : 0 ≤ n) (h1 : n ≤ 9223372036854775807) : IntKind.i64.wrap n = n := by
  simp [IntKind.wrap, IntKind.signed, IntKind.bits]
  omega
set_option maxRecDepth 3000 in
set_option maxHeartbeats 1000000 in
theorem set_any {w : World} {b W : Nat} {P : Pl} (h : PlAt w b W P) (a : Nat) (ha : a < 64 * W) (hW : W ≤ 1000) :
    Calls Tryz.prog 82 #[plV b W, .int .i64 a] w fun e w' => e = .returned (.tuple #[]) ∧ PlAt w' b W (addP P a) ∧ Chg (fun x => x = b) w w' := by
  have hj := place_word ha
  have c0 := h.cell hj
  have hfr := h.free
  have hd : (a : Int) / 64 = ((a / 64 : Nat) : Int) := by omega
  have hm : (a : Int) % 64 = ((a % 64 : Nat) : Int) := by omega
  have hm2 : (a : Int).tmod 64 = ((a % 64 : Nat) : Int) := by rw [Int.tmod_eq_emod_of_nonneg (by omega)]; omega
  obtain ⟨j, hjj⟩ : ∃ j, a / 64 = j := ⟨_, rfl⟩
  obtain ⟨t, htt⟩ : ∃ t, a % 64 = t := ⟨_, rfl⟩
  have ht64 : t < 64 := by omega
  rw [hjj] at hj c0 hd
  rw [htt] at hm hm2
  have hwj : IntKind.i64.wrap (j : Int) = (j : Int) := wrap_small (by omega) (by omega)
  have H := Lib.hid h
  have HJ := Lib.hid hjj
  have HT := Lib.hid htt
  clear h hjj htt
  go_enter Tryz.func82, Tryz.ntmps82
  have hp64 : 2 ^ t < 18446744073709551616 := Nat.pow_lt_pow_right (by decide) ht64
  obtain ⟨Y, hY⟩ : ∃ Y, 2 ^ t = Y := ⟨_, rfl⟩
  have hYI : (2 : Int) ^ t = (Y : Int) := by rw [← hY]; simp
  rw [hY] at hp64
  have hw1 : IntKind.u64.wrap (Y : Int) = (Y : Int) := by rw [IntKind.wrap_u64]; omega
  have hbit : bits .or .u64 (wordN P j : Int) (Y : Int) = ((wordN (addP P a) j : Nat) : Int) := by
    rw [bits_or_u64_nat _ _ (wordN_lt _ _) hp64, ← hY, ← HJ.out, ← HT.out, word_add]
  have HP := Lib.hid (HJ.out ▸ H.out.add a : PlAt (w.setCell ⟨b, j, none⟩ (.int .u64 (wordN (addP P a) j : Nat))) b W (addP P a))
  have hsame : Chg (fun x => x = b) w (w.setCell ⟨b, j, none⟩ (.int .u64 (wordN (addP P a) j : Nat))) := chg_cell _ _ _ _
  have HC := Lib.hid hsame
  clear hsame hp64 hY
  generalize wordN (addP P a) j = X at hbit HP HC
  go_region_law (fail)
  all_goals
    refine ⟨rfl, .tuple #[], results_none rfl _ _ _, rfl, ?_, ?_⟩
    · exact HP.out.grows (by repeat' first | exact Grows.refl _ | refine Grows.drewN ?_ _ | refine Grows.drew ?_)
    · exact HC.out.trans (Chg.of_grows (by repeat' first | exact Grows.refl _ | refine Grows.drewN ?_ _ | refine Grows.drew ?_))
set_option maxRecDepth 3000 in
set_option maxHeartbeats 1000000 in
theorem has_any {w : World} {b W : Nat} {P : Pl} (h : PlAt w b W P) (a : Nat) (ha : a < 64 * W) (hW : W ≤ 1000) :
    Calls Tryz.prog 88 #[plV b W, .int .i64 a] w fun e w' => e = .returned (.bool (P a)) ∧ w' = w := by
  have hj := place_word ha
  have c0 := h.cell hj
  have hd : (a : Int) / 64 = ((a / 64 : Nat) : Int) := by omega
  have hm : (a : Int) % 64 = ((a % 64 : Nat) : Int) := by omega
  have hm2 : (a : Int).tmod 64 = ((a % 64 : Nat) : Int) := by rw [Int.tmod_eq_emod_of_nonneg (by omega)]; omega
  have hwj : IntKind.i64.wrap ((a / 64 : Nat) : Int) = ((a / 64 : Nat) : Int) := wrap_small (by omega) (by omega)
  have hlt := wordN_lt P (a / 64)
  have hsh := word_has P a
  rw [Nat.shiftRight_eq_div_pow] at hsh
  have ht64 : a % 64 < 64 := Nat.mod_lt _ (by decide)
  generalize a / 64 = j at *
  generalize a % 64 = t at *
  have hq : (wordN P j : Int) / 2 ^ t = ((wordN P j / 2 ^ t : Nat) : Int) := by simp
  have hqlt : wordN P j / 2 ^ t < 18446744073709551616 := Nat.lt_of_le_of_lt (Nat.div_le_self _ _) hlt
  generalize wordN P j / 2 ^ t = Q at hq hsh hqlt
  have hbit0 : bits .and .u64 (Q : Int) 1 = ((Q &&& 1 : Nat) : Int) := bits_and_u64_nat Q 1 hqlt (by decide)
  rw [hsh] at hbit0
  have HB := Lib.hid hbit0
  clear hsh h hlt hqlt hbit0
  cases hp : P a with
  | true =>
    have hbit : bits .and .u64 (Q : Int) 1 = 1 := by rw [HB.out, hp]; rfl
    clear hp HB
    go_enter Tryz.func88, Tryz.ntmps88
    go_wp2_with fail
    go_ret
    exact ⟨rfl, rfl⟩
  | false =>
    have hbit : bits .and .u64 (Q : Int) 1 = 0 := by rw [HB.out, hp]; rfl
    clear hp HB
    go_enter Tryz.func88, Tryz.ntmps88
    go_wp2_with fail
    go_ret
    exact ⟨rfl, rfl⟩
set_option maxRecDepth 3000 in
theorem PlAt.put {w : World} {b W j : Nat} {P Q : Pl} (h : PlAt w b W P) (hj : j < W) (hq : ∀ k, k < W → k ≠ j → wordN Q k = wordN P k) : PlAt (w.setCell ⟨b, j, none⟩ (.int .u64 (wordN Q j : Nat))) b W Q := by
  refine ⟨(pa_put h.eq h.zpos _ _).trans ?_, h.pos⟩
  apply Array.ext_getElem?
  intro k
  rw [Array.getElem?_setIfInBounds, wordsA_size]
  by_cases hk : k < W
  · by_cases e : j = k
    · subst e
      rw [if_pos rfl, if_pos hk, wordsA_get _ hk]
    · rw [if_neg e, wordsA_get _ hk, wordsA_get _ hk, hq k hk (fun h => e h.symm)]
  · have e1 : (wordsA W P)[k]? = none := Array.getElem?_eq_none (by rw [wordsA_size]; omega)
    have e2 : (wordsA W Q)[k]? = none := Array.getElem?_eq_none (by rw [wordsA_size]; omega)
    rw [e1, e2]
    split
    · omega
    · rfl
/-- Some words of both. -/
def mixP (P Q : Pl) (i : Nat) : Pl := fun a => P a || (Q a && decide (a < 64 * i))
set_option maxRecDepth 3000 in
theorem mix_zero (P Q : Pl) : mixP P Q 0 = P := by funext a; simp [mixP]
set_option maxRecDepth 3000 in
theorem mix_at (P Q : Pl) (i : Nat) : wordN (mixP P Q i) i = wordN P i := wordN_congr fun k _ => by
  unfold mixP
  rw [decide_eq_false (by omega : ¬ 64 * i + k < 64 * i), Bool.and_false, Bool.or_false]
set_option maxRecDepth 3000 in
theorem mix_next (P Q : Pl) (i : Nat) : wordN (mixP P Q (i + 1)) i = wordN P i ||| wordN Q i := by
  rw [word_or]
  refine wordN_congr fun k hk => ?_
  unfold mixP orP
  rw [decide_eq_true (by omega : 64 * i + k < 64 * (i + 1)), Bool.and_true]
set_option maxRecDepth 3000 in
theorem mix_ne (P Q : Pl) {i j : Nat} (h : j ≠ i) : wordN (mixP P Q (i + 1)) j = wordN (mixP P Q i) j := wordN_congr fun k hk => by
  unfold mixP
  congr 2
  rw [decide_eq_decide]
  omega
set_option maxRecDepth 3000 in
theorem wordsA_congr {W : Nat} {P Q : Pl} (h : ∀ j, j < W → wordN P j = wordN Q j) : wordsA W P = wordsA W Q := by
  apply Array.ext_getElem?
  intro j
  by_cases hj : j < W
  · rw [wordsA_get _ hj, wordsA_get _ hj, h j hj]
  · rw [Array.getElem?_eq_none (by rw [wordsA_size]; omega), Array.getElem?_eq_none (by rw [wordsA_size]; omega)]
set_option maxRecDepth 3000 in
theorem PlAt.congr {w : World} {b W : Nat} {P Q : Pl} (h : PlAt w b W P) (hq : ∀ a, a < 64 * W → P a = Q a) : PlAt w b W Q :=
  ⟨h.eq.trans (wordsA_congr fun j hj => wordN_congr fun k hk => hq _ (by omega)), h.pos⟩
set_option maxRecDepth 3000 in
theorem PlAt.all {w : World} {b W : Nat} {P Q : Pl} (h : PlAt w b W (mixP P Q W)) : PlAt w b W (orP P Q) := h.congr fun a ha => by
  unfold mixP orP
  rw [decide_eq_true ha, Bool.and_true]
set_option maxRecDepth 3000 in
set_option maxHeartbeats 1000000 in
theorem join_any {w : World} {b c W : Nat} {P Q : Pl} (h : PlAt w b W P) (k : PlAt w c W Q) (hne : c ≠ b) (hW : W ≤ 1000) :
    Calls Tryz.prog 108 #[plV b W, plV c W] w fun e w' => e = .returned (.tuple #[]) ∧ PlAt w' b W (orP P Q) ∧ Chg (fun x => x = b) w w' := by
  have H := Lib.hid h
  have K := Lib.hid k
  clear h k
  go_enter Tryz.func108, Tryz.ntmps108
  go_wp2_with fail
  go_loopg [4, 5, 8] W (fun q _ _ v8 wr => ∃ i : Nat, q + i = W ∧ v8 = .int .i64 i ∧ PlAt wr b W (mixP P Q i) ∧ Chg (fun x => x = b) w wr)
  case atStart => exact ⟨0, by omega, rfl, by rw [mix_zero]; exact H.out, Chg.refl _ _⟩
  case round =>
    obtain ⟨i, hq, rfl, hM, hC⟩ := hrel
    have HQ := Lib.hid hq
    have hiW : i ≤ W := by omega
    have HM := Lib.hid hM
    have HC := Lib.hid hC
    clear hq hM hC
    by_cases hi : i < W
    · have hix : (i : Int) < (W : Int) := by omega
      have c0 := HM.out.cell hi
      rw [mix_at] at c0
      have d0 := (K.out.chg HC.out hne).cell hi
      have hfr := HM.out.free
      have hbit : bits .or .u64 (wordN P i : Int) (wordN Q i : Int) = ((wordN (mixP P Q (i + 1)) i : Nat) : Int) := by
        rw [bits_or_u64_nat _ _ (wordN_lt _ _) (wordN_lt _ _), mix_next]
      go_wp2_with fail
      go_roundg (gk - 1)
      case measure => have := HQ.out; omega
      case rel => exact ⟨i + 1, by have := HQ.out; omega, by simp, HM.out.put hi fun k _ hk => mix_ne P Q hk, HC.out.trans (chg_cell _ _ _ _)⟩
    · have hix : ¬ (i : Int) < (W : Int) := by omega
      have hin : decide (i < W) = false := decide_eq_false hi
      obtain rfl : i = W := by omega
      go_wp2_with fail
      exact ⟨rfl, .tuple #[], results_none rfl _ _ _, rfl, HM.out.all, HC.out⟩
/-- The table by which bits are counted. -/
def TzAt (w : World) : Prop := TabAt 1 Lib.deBruijn64tab w
set_option maxRecDepth 3000 in
theorem TzAt.lt {w : World} (h : TzAt w) : 1 < w.heap.size := World.block_lt_of_cell? _ _ (h 0 (by decide))
set_option maxRecDepth 3000 in
theorem TzAt.chg {w w' : World} (h : TzAt w) {q : Nat → Prop} (hc : Chg q w w') (hq : ¬ q 1) : TzAt w' := fun j hj => (hc.cell (a := ⟨1, j, none⟩) h.lt hq).trans (h j hj)
set_option maxRecDepth 3000 in
theorem TzAt.grows {w w' : World} (h : TzAt w) (hg : Grows w w') : TzAt w' := h.chg (Chg.of_grows (p := fun _ => False) hg) (fun h => h)
section
set_option maxHeartbeats 1000000
set_option maxRecDepth 3000 in
theorem tz_core (x k idx : Nat) (w : World) (hx0 : ((x : Int) == 0) = false)
    (key : IntKind.u64.wrap (bits BinOp.and IntKind.u64 (x : Int) (IntKind.u64.wrap (-(x : Int))) * 285870213051353865) / 288230376151711744 = (idx : Int))
    (hi : idx < 64) (hk : k < 64) (hcell : w.cell? ⟨1, idx, none⟩ = some (.int .u8 k)) :
    Calls Tryz.prog 85 #[.int .u64 x] w fun e w' => e = .returned (.int .i64 k) ∧ w' = w := by
  go_enter Tryz.func85, Tryz.ntmps85
  go_wp2_with (simp only [key])
  go_ret
  exact ⟨rfl, rfl⟩
end
end Go.Proofs.YtkomggeionofbaaGreatDoor
