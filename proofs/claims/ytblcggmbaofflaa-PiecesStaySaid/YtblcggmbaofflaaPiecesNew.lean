/-
  Pieces: the walks of New, Line, Text, Compact, Splice, and of the law's own all.
-/
import Derived.Test.YtblcggmbaofflaaPiecesTab
import Derived.Test.YtblcggmbaofflaaJoins
import Derived.Deep.RegionHeld3
namespace Go.Proofs.Ytblcggmbaofflaa
open Go.RowKit

/-- A table of lines, laid anew but for some pieces. -/
structure TabOf (w : World) (d : List (List UInt8)) (T : Tbl) (w' : World) : Prop where
  ok : T.ok w'
  lines : T.L = d
  grows : Grows w w'
/-- Its blocks are new. -/
def TabNew (d : List (List UInt8)) (w : World) (e : Ending) (w' : World) : Prop := ∃ T : Tbl, e = .returned T.val ∧ TabOf w d T w' ∧ (∀ b, T.uses b → w.heap.size ≤ b) ∧ T.ps.length = min 1 d.length

theorem own_row {w : World} {base : Nat} {v : Value} {d : List (List UInt8)} (h : w.ownsRow base 9 1 v d.length (lv d)) : ∃ A cap, v = .slice A d.length cap ∧ d.length ≤ cap ∧ cap ≤ 9223372036854775807 ∧ Rd w 1 A d.length (lv d) ∧ (A = none → d.length = 0 ∧ cap = 0) ∧ ∀ a, A = some a → a.spot = none ∧ base ≤ a.block := by
  obtain ⟨A, cap, e, h1, h2, h3, h4⟩ := own_rd' h
  refine ⟨A, cap, e, h1, h2, h3, h4, fun a ha => ?_⟩
  subst ha
  rcases h.2 with ⟨e2, _⟩ | ⟨g, c, cur, e2, hb, _⟩
  · rw [e] at e2; injection e2 with e3; cases e3
  · rw [e] at e2; injection e2 with e3; injection e3 with e3; rw [e3]; exact ⟨rfl, hb⟩
/-- of one piece that was laid in a block of its own. -/
theorem of_one (A : Option Addr) (cap n g m c : Nat) (d : List (List UInt8)) (w : World) (hn : n = d.length) (hg : g = w.heap.size) (hm : m = 1) (hp : (Part.mk A cap d).good w) (hl : d.length ≤ 1000000) (ty : TypeId) :
    Calls Try.prog 30 #[.slice (some ⟨g, 0, none⟩) m c] (w.alloc (.cells #[.slice A n cap] ty)) (OfPost [⟨A, cap, d⟩] (w.alloc (.cells #[.slice A n cap] ty))) := by
  subst hn hg hm
  have hgr : Grows w (w.alloc (.cells #[.slice A d.length cap] ty)) := (Grows.refl _).alloc _
  refine of_any (some ⟨w.heap.size, 0, none⟩) c [⟨A, cap, d⟩] _ (rd_new _ _ _ 1 _ rfl rfl) (fun p hp' => ?_) (by simpa [partsL] using hl) (by simp)
  obtain rfl : p = ⟨A, cap, d⟩ := by simpa using hp'
  exact hp.grows hgr
theorem OfPost.one {A : Option Addr} {cap : Nat} {d : List (List UInt8)} {w X : World} {e : Ending} {w' : World} (h : OfPost [⟨A, cap, d⟩] w e w') (hX : Grows X w) (hA : ∀ a, A = some a → X.heap.size ≤ a.block) : TabNew d X e w' := by
  obtain ⟨T, rfl, hok, hps, hg, hP, hgr⟩ := h
  refine ⟨T, rfl, ⟨hok, by unfold Tbl.L; rw [hps, fullV_lines]; simp [partsL], hX.trans hgr⟩, fun b hb => ?_, ?_⟩
  · have hs := hX.below.size
    rcases OfPost.uses hps hg hP b hb with h | ⟨p, hp, _, a, ha, rfl⟩
    · omega
    · obtain rfl : p = ⟨A, cap, d⟩ := by simpa using hp
      exact hA a ha
  · rw [hps]
    by_cases h : 0 < d.length
    · simp [fullV, h]; omega
    · simp [fullV, h]; omega

set_option maxHeartbeats 2000000 in
theorem new_any (A : Option Addr) (cap : Nat) (d : List (List UInt8)) (w : World) (hA : Rd w 1 A d.length (lv d)) (hd : d.length ≤ 1000000) (hnil : A = none → d.length = 0 ∧ cap = 0) (hl : ∀ s ∈ d, s.length ≤ 9223372036854775807) (hok : lcheckV d = 0) :
    Calls Try.prog 13 #[.slice A d.length cap] w (TabNew d w) := by
  have HL := Lib.hid hl
  have HN := Lib.hid hnil
  have HO := Lib.hid hok
  clear hl hnil hok
  go_enter Try.func13, Try.ntmps13
  go_wp2_with fail
  (with_reducible refine (lcheck_any A cap d _ hA (by omega) HL.out).mono ?_)
  rw [HO.out]
  rintro e w' ⟨rfl, rfl⟩
  go_wp2_with fail
  (with_reducible refine (clone_any A cap d _ hA (by omega) HN.out).mono ?_)
  rintro e w1 ⟨v, rfl, hown, m1, rfl⟩
  obtain ⟨B, cb, rfl, hcb, hcb6, hB, hBn, hBs⟩ := own_row hown
  have HBN := Lib.hid hBn
  have HBS := Lib.hid hBs
  clear hown hBn hBs
  go_wp2_with fail
  (with_reducible refine (of_one B cb _ _ _ _ d _ rfl ?_ ?_ ?_ hd _).mono ?_)
  · simp [go_sem]
  · rfl
  · exact ⟨⟨hB, HBN.out⟩, hcb, hcb6⟩
  intro e w2 h
  obtain ⟨T, rfl, hT⟩ := h.one (X := w) (((Grows.refl _).more _).alloc _) (fun a ha => (HBS.out a ha).2)
  go_wp2_with fail
  go_ret
  exact ⟨T, rfl, hT⟩
set_option maxHeartbeats 2000000 in
theorem new_no (A : Option Addr) (cap : Nat) (d : List (List UInt8)) (w : World) (hA : Rd w 1 A d.length (lv d)) (hd : d.length ≤ 1000000) (hl : ∀ s ∈ d, s.length ≤ 9223372036854775807) (hok : lcheckV d ≠ 0) :
    Calls Try.prog 13 #[.slice A d.length cap] w fun e w' => e = .returned (.pointer none) ∧ w = w' := by
  have HL := Lib.hid hl
  have hok' : (lcheckV d != 0) = true := by simpa using hok
  clear hl
  go_enter Try.func13, Try.ntmps13
  go_wp2_with fail
  (with_reducible refine (lcheck_any A cap d _ hA (by omega) HL.out).mono ?_)
  rintro e w' ⟨rfl, rfl⟩
  go_wp2_with fail
  go_ret
  exact ⟨rfl, rfl⟩
theorem i64_small {n : Nat} (h : n ≤ 1000000) : I64 (n : Int) := by unfold I64; omega
set_option maxHeartbeats 2000000 in
theorem line_any (T : Tbl) (i : Int) (w : World) (hT : T.ok w) (hi : I64 i) :
    Calls Try.prog 24 #[T.val, .int .i64 i] w fun e w' => e = .returned (.tuple #[.string (tx ((rangeV T.L i i).headD [])), .bool (decide ((rangeV T.L i i).length = 1))]) ∧ Grows w w' := by
  go_enter Try.func24, Try.ntmps24
  go_wp2_with fail
  (with_reducible refine (lines_any T i i _ hT hi hi).mono ?_)
  rintro e w1 ⟨v, rfl, hown, m1, rfl⟩
  obtain ⟨B, cb, rfl, hcb, hcb6, hB, hBn, hBs⟩ := own_row hown
  generalize hR : rangeV T.L i i = R at *
  have HR := Lib.hid hR
  clear hR hown hBn hBs
  have hR1 : R.length ≤ 1 := by
    rw [← HR.out]; unfold rangeV; simp; omega
  match R, hR1 with
  | [], _ =>
    go_wp2_with fail
    go_ret2
    exact ⟨by rw [HR.out]; rfl, Grows.of _ _⟩
  | [x], _ =>
    obtain ⟨b, o, rfl, hb, ec⟩ := hB.line 0 (by simp)
    simp only [List.getElem_cons_zero, Nat.add_zero, List.length_singleton] at ec hcb ⊢
    go_wp2_with fail
    go_ret2
    exact ⟨by rw [HR.out]; rfl, Grows.of _ _⟩
theorem line_nil (i : Int) (w : World) (hi : I64 i) :
    Calls Try.prog 24 #[.pointer none, .int .i64 i] w fun e w' => e = .returned (.tuple #[.string ⟨#[]⟩, .bool false]) ∧ Grows w w' := by
  go_enter Try.func24, Try.ntmps24
  go_wp2_with fail
  (with_reducible refine (lines_nil i i _ hi hi).mono ?_)
  rintro e w1 ⟨rfl, rfl⟩
  go_wp2_with fail
  go_ret2
  exact ⟨rfl, Grows.refl _⟩
theorem rangeV_all (d : List (List UInt8)) (n : Nat) (h : d.length ≤ n) : rangeV d 1 n = d := by
  unfold rangeV; rw [Int.toNat_natCast, List.take_of_length_le h]; simp
set_option maxHeartbeats 2000000 in
theorem all_any (T : Tbl) (w : World) (hT : T.ok w) : Calls Try.prog 20 #[T.val] w (NewLines T.L w) := by
  have hs : T.L.length ≤ 1000000 := hT.small
  go_enter Try.func20, Try.ntmps20
  go_wp2_with fail
  (with_reducible refine (len_any T _ hT).mono ?_)
  rintro e w1 ⟨rfl, rfl⟩
  go_wp2_with fail
  (with_reducible refine (lines_any T _ _ _ hT (by unfold I64; omega) (i64_small hs)).mono ?_)
  rw [rangeV_all _ _ (Nat.le_refl _)]
  rintro e w1 ⟨v, rfl, hown, m1, rfl⟩
  go_wp2_with fail
  go_ret
  exact ⟨_, rfl, hown, Grows.of _ _⟩
set_option maxHeartbeats 2000000 in
theorem text_any (T : Tbl) (w : World) (hT : T.ok w) (hj : (joinL T.L).length ≤ 140737488355000) : Calls Try.prog 22 #[T.val] w fun e w' => e = .returned (.string (tx (joinL T.L))) ∧ Grows w w' := by
  have hs : T.L.length ≤ 1000000 := hT.small
  go_enter Try.func22, Try.ntmps22
  go_wp2_with fail
  (with_reducible refine (len_any T _ hT).mono ?_)
  rintro e w1 ⟨rfl, rfl⟩
  go_wp2_with fail
  (with_reducible refine (lines_any T _ _ _ hT (by unfold I64; omega) (i64_small hs)).mono ?_)
  rw [rangeV_all _ _ (Nat.le_refl _)]
  rintro e w1 ⟨v, rfl, hown, m1, rfl⟩
  obtain ⟨B, cb, rfl, hcb, hcb6, hB, hBn, hBs⟩ := own_row hown
  clear hown hBn hBs
  go_wp2_with fail
  (with_reducible refine (join_any B cb T.L _ hB hj (by omega)).mono ?_)
  rintro e w1 ⟨rfl, m2, rfl⟩
  go_wp2_with fail
  go_ret
  exact ⟨rfl, (Grows.of _ _).more _⟩
set_option maxHeartbeats 2000000 in
theorem text_nil (w : World) : Calls Try.prog 22 #[.pointer none] w fun e w' => e = .returned (.string ⟨#[]⟩) ∧ Grows w w' := by
  go_enter Try.func22, Try.ntmps22
  go_wp2_with fail
  (with_reducible refine (len_nil _).mono ?_)
  rintro e w1 ⟨rfl, rfl⟩
  go_wp2_with fail
  (with_reducible refine (lines_nil _ _ _ (by unfold I64; omega) (by unfold I64; omega)).mono ?_)
  rintro e w1 ⟨rfl, rfl⟩
  go_wp2_with fail
  refine (join_any none 0 [] _ Rd.nil_ (by simp [joinL]) (by simp)).mono ?_
  rintro e w1 ⟨rfl, m2, rfl⟩
  go_wp2_with fail
  go_ret
  exact ⟨rfl, Grows.of _ _⟩
theorem lines_ptr (T : Tbl) (f t : Int) (w : World) (hT : T.ok w) (hf : I64 f) (ht : I64 t) :
    Calls Try.prog 26 #[.pointer (some ⟨T.g, 0, none⟩), .int .i64 f, .int .i64 t] w (NewLines (rangeV T.L f t) w) := lines_any T f t w hT hf ht
set_option maxHeartbeats 2000000 in
theorem compact_any (T : Tbl) (w : World) (hT : T.ok w) : Calls Try.prog 27 #[T.val] w (TabNew T.L w) := by
  have hs : T.L.length ≤ 1000000 := hT.small
  have hc := hT.cells
  have hx1 := Blk.cell hc (by simp) 1
  have hi1 := Blk.inHeap hc (by simp)
  simp only [List.size_toArray, List.length_cons, List.length_nil, Nat.zero_add, Nat.reduceAdd, Nat.reduceLT, getElem?_pos, List.getElem_toArray, List.getElem_cons_succ, List.getElem_cons_zero] at hx1
  rw [show partsL T.ps = T.L from rfl] at hx1
  clear hc
  have HT := Lib.hid hT
  clear hT
  obtain ⟨V, hV⟩ : ∃ V, V = T.val := ⟨_, rfl⟩
  have HV := Lib.hid hV
  rw [show T.val = .pointer (some ⟨T.g, 0, none⟩) from rfl]
  go_enter Try.func27, Try.ntmps27
  go_wp2_with fail
  (with_reducible refine (lines_ptr T 1 (T.L.length : Nat) _ HT.out (by unfold I64; omega) (i64_small hs)).mono ?_)
  rw [rangeV_all _ _ (Nat.le_refl _)]
  rintro e w1 ⟨v, rfl, hown, m1, rfl⟩
  obtain ⟨B, cb, rfl, hcb, hcb6, hB, hBn, hBs⟩ := own_row hown
  have HBN := Lib.hid hBn
  have HBS := Lib.hid hBs
  clear hown hBn hBs
  go_wp2_with fail
  (with_reducible refine (of_one B cb _ _ _ _ T.L _ rfl ?_ ?_ ?_ hs _).mono ?_)
  · simp [go_sem]
  · rfl
  · exact ⟨⟨hB, HBN.out⟩, hcb, hcb6⟩
  intro e w2 h
  obtain ⟨T', rfl, hT'⟩ := h.one (X := w) (((Grows.refl _).more _).alloc _) (fun a ha => (HBS.out a ha).2)
  go_wp2_with fail
  go_ret
  exact ⟨T', rfl, hT'⟩
theorem compact_nil (w : World) : Calls Try.prog 27 #[.pointer none] w fun e w' => e = .returned (.pointer none) ∧ w = w' := by
  go_enter Try.func27, Try.ntmps27
  go_wp2_with fail
  go_ret
  exact ⟨rfl, rfl⟩
end Go.Proofs.Ytblcggmbaofflaa
