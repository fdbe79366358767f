/-
  Several texts of the proof: PiecesSplice, PiecesSpliceNo.
-/
import Derived.Test.YthanghgfakibnaaPk08
/-
  Pieces: the walk of Splice.
-/
namespace Go.Proofs.Ythanghgfakibnaa
open Go.RowKit

/-- What Splice answers. -/
def SpliceOut (T : Tbl) (x : List (List UInt8) × Int) (w : World) (e : Ending) (w' : World) : Prop :=
  (x.2 ≠ 0 ∧ e = .returned (.tuple #[.pointer none, .int .i64 x.2]) ∧ Grows w w') ∨
  (x.2 = 0 ∧ ∃ U : Tbl, e = .returned (.tuple #[U.val, .int .i64 0]) ∧ TabOf w x.1 U w' ∧ (∀ b, U.uses b → T.uses b ∨ w.heap.size ≤ b) ∧ U.ps.length ≤ T.ps.length + 2)

set_option maxRecDepth 3000 in
/-- Concat of three rows that were laid in a block of their own. -/
theorem concat3P (A1 A2 A3 : Option Addr) (c1 c2 c3 n1 n2 n3 : Nat) (d1 d2 d3 : List Part) (w : World) (g ty : Nat) (hg : g = w.heap.size) (h1 : n1 = d1.length) (h2 : n2 = d2.length) (h3 : n3 = d3.length)
    (r1 : (PRow.mk A1 c1 d1).ok w) (r2 : (PRow.mk A2 c2 d2).ok w) (r3 : (PRow.mk A3 c3 d3).ok w) (hl : d1.length + (d2.length + d3.length) ≤ 5000000000000) :
    Calls Try.prog 69 #[.slice (some ⟨g, 0, none⟩) 3 3] (w.alloc (.cells #[.slice A1 n1 c1, .slice A2 n2 c2, .slice A3 n3 c3] ty)) (NewParts (d1 ++ (d2 ++ d3)) (w.alloc (.cells #[.slice A1 n1 c1, .slice A2 n2 c2, .slice A3 n3 c3] ty))) := by
  subst hg h1 h2 h3
  have hgr : Grows w (w.alloc (.cells #[.slice A1 d1.length c1, .slice A2 d2.length c2, .slice A3 d3.length c3] ty)) := (Grows.refl _).alloc _
  have := concatP_any w.heap.size [⟨A1, c1, d1⟩, ⟨A2, c2, d2⟩, ⟨A3, c3, d3⟩] 3 3 (w.alloc (.cells #[.slice A1 d1.length c1, .slice A2 d2.length c2, .slice A3 d3.length c3] ty)) rfl ?_ ?_ ?_ (by simp)
  · simpa [rowsL] using this
  · exact rd_new _ _ _ 3 _ rfl rfl
  · intro p hp
    simp only [List.mem_cons, List.not_mem_nil, or_false] at hp
    rcases hp with rfl | rfl | rfl
    · exact PRow.grows r1 hgr
    · exact PRow.grows r2 hgr
    · exact PRow.grows r3 hgr
  · simpa [rowsL] using hl
set_option maxRecDepth 3000 in
theorem PRow.ok_mk {w : World} {A : Option Addr} {cap : Nat} {ps : List Part} (h : Rd w 1 A ps.length (pv ps)) (hn : A = none → ps.length = 0 ∧ cap = 0) : (PRow.mk A cap ps).ok w := ⟨h, hn⟩
set_option maxRecDepth 3000 in
theorem Part.good_mk {w : World} {A : Option Addr} {cap : Nat} {d : List (List UInt8)} (h : Rd w 1 A d.length (lv d)) (hn : A = none → d.length = 0 ∧ cap = 0) (hc : d.length ≤ cap) (hc6 : cap ≤ 9223372036854775807) : (Part.mk A cap d).good w := ⟨⟨h, hn⟩, hc, hc6⟩
set_option maxRecDepth 3000 in
theorem rd_one {W X : World} {v : Value} {t : TypeId} {g : Nat} (hX : Grows (W.alloc (.cells #[v] t)) X) (hg : g = W.heap.size) : Rd X 1 (some ⟨g, 0, none⟩) 1 [v] := (rd_new W #[v] t 1 g rfl hg).grows hX
set_option maxRecDepth 3000 in
theorem cut_uses {T : Tbl} {n f t : Nat} {p : Part} {a : Addr} (hp : p ∈ partsV T.ps n f t) (ha : p.A = some a) : T.uses a.block := by
  obtain ⟨q, hq, i, j, _, _, rfl⟩ := partsV_some _ _ _ _ p hp
  simp only [Part.cutAt, Option.map_eq_some_iff] at ha
  obtain ⟨x, hx, rfl⟩ := ha
  exact .inr (.inr ⟨q, hq, x, hx, rfl⟩)
set_option maxRecDepth 3000 in
theorem good_three {w : World} {l k : List Part} {q : Part} (h1 : ∀ p ∈ l, p.good w) (h2 : q.good w) (h3 : ∀ p ∈ k, p.good w) : ∀ p ∈ l ++ ([q] ++ k), p.good w := by
  intro p hp
  simp only [List.mem_append, List.mem_singleton] at hp
  rcases hp with hp | rfl | hp
  · exact h1 p hp
  · exact h2
  · exact h3 p hp
set_option maxRecDepth 3000 in
theorem parts_ptr (T : Tbl) (f t : Nat) (w : World) (hT : T.ok w) (hf : f ≤ 1000000) (ht : t ≤ 1000000) :
    Calls Try.prog 65 #[.pointer (some ⟨T.g, 0, none⟩), .int .i64 f, .int .i64 t] w (NewParts (partsV T.ps 0 f t) w) := parts_any T f t w hT hf ht
set_option maxRecDepth 3000 in
theorem parts_zero (T : Tbl) (t : Nat) (w : World) (hT : T.ok w) (ht : t ≤ 1000000) :
    Calls Try.prog 65 #[.pointer (some ⟨T.g, 0, none⟩), .int .i64 0, .int .i64 t] w (NewParts (partsV T.ps 0 0 t) w) := parts_any T 0 t w hT (by omega) ht
set_option maxRecDepth 3000 in
theorem parts_sum (T : Tbl) (f g t : Nat) (w : World) (hT : T.ok w) (hf : f + g ≤ 1000000) (ht : t ≤ 1000000) :
    Calls Try.prog 65 #[.pointer (some ⟨T.g, 0, none⟩), .int .i64 ((f : Int) + (g : Int)), .int .i64 t] w (NewParts (partsV T.ps 0 (f + g) t) w) := by
  rw [show (f : Int) + (g : Int) = ((f + g : Nat) : Int) by omega]
  exact parts_any T (f + g) t w hT hf ht

set_option maxRecDepth 3000 in
set_option maxHeartbeats 4000000 in
theorem splice_yes (T : Tbl) (at_ del : Nat) (I : Option Addr) (ci : Nat) (ins : List (List UInt8)) (w : World) (hT : T.ok w) (hI : Rd w 1 I ins.length (lv ins)) (hnI : I = none → ins.length = 0 ∧ ci = 0) (hi : ins.length ≤ 1000000) (hl : ∀ s ∈ ins, s.length ≤ 9223372036854775807) (hck : lcheckV ins = 0) (h1 : at_ + del ≤ T.L.length) (h2 : T.L.length - del + ins.length ≤ 2000) :
    Calls Try.prog 42 #[T.val, .int .i64 at_, .int .i64 del, .slice I ins.length ci] w (SpliceOut T (T.L.take at_ ++ (ins ++ T.L.drop (at_ + del)), 0) w) := by
  have HL := Lib.hid hl
  have HC := Lib.hid hck
  have HN := Lib.hid hnI
  have hs : T.L.length ≤ 1000000 := hT.small
  have hc := hT.cells
  have hx1 := Blk.cell hc (by simp) 1
  have hi1 := Blk.inHeap hc (by simp)
  simp only [List.size_toArray, List.length_cons, List.length_nil, Nat.zero_add, Nat.reduceAdd, Nat.reduceLT, getElem?_pos, List.getElem_toArray, List.getElem_cons_succ, List.getElem_cons_zero] at hx1
  rw [show partsL T.ps = T.L from rfl] at hx1
  have HT := Lib.hid hT
  clear hl hck hnI hc hT
  rw [show T.val = .pointer (some ⟨T.g, 0, none⟩) from rfl]
  go_enter Try.func42, Try.ntmps42
  go_wp2_with fail
  (with_reducible refine (lcheck_any I ci ins _ hI (by omega) HL.out).mono ?_)
  rw [HC.out]
  rintro e w1 ⟨rfl, rfl⟩
  go_wp2_with fail
  have hw1 : IntKind.i64.wrap ((at_ : Int) + del) = (at_ : Int) + del := by rw [IntWalk.i64_left]; unfold wrap64; omega
  have hat : at_ ≤ 1000000 := by omega
  have had : at_ + del ≤ 1000000 := by omega
  have hq1 : ∀ p ∈ partsV T.ps 0 0 at_, p.good w := fun q hq => by
    obtain ⟨p, hp, a, b, hab, hb, rfl⟩ := partsV_some _ _ _ _ q hq
    exact (Part.cutAt_good (HT.out.each p hp).1 a b hab hb).1
  have hq3 : ∀ p ∈ partsV T.ps 0 (at_ + del) T.L.length, p.good w := fun q hq => by
    obtain ⟨p, hp, a, b, hab, hb, rfl⟩ := partsV_some _ _ _ _ q hq
    exact (Part.cutAt_good (HT.out.each p hp).1 a b hab hb).1
  have hpc : T.ps.length ≤ 1000000 := Nat.le_trans HT.out.count hs
  have hp1 := partsV_le T.ps 0 0 at_
  have hp3 := partsV_le T.ps 0 (at_ + del) T.L.length
  have hp2 := partsV_two T.ps 0 at_ (at_ + del) T.L.length (by omega)
  have HQ1 := Lib.hid hq1
  have HQ3 := Lib.hid hq3
  have hRL : partsL (partsV T.ps 0 0 at_) = T.L.take at_ := by rw [partsV_lines]; simp [Tbl.L]
  have hRD : partsL (partsV T.ps 0 (at_ + del) T.L.length) = T.L.drop (at_ + del) := by rw [partsV_lines]; simp [Tbl.L]
  have HRL := Lib.hid hRL
  have HRD := Lib.hid hRD
  have hRn : ∀ q : Part, q.d = ins → partsL (partsV T.ps 0 0 at_ ++ ([q] ++ partsV T.ps 0 (at_ + del) T.L.length)) = T.L.take at_ ++ (ins ++ T.L.drop (at_ + del)) := fun q hq => by
    rw [partsL_append, partsL_append, HRL.out, HRD.out]; simp [partsL, hq]
  have HRn := Lib.hid hRn
  have hRlen : (T.L.take at_ ++ (ins ++ T.L.drop (at_ + del))).length ≤ 1000000 := by simp; omega
  clear hq1 hq3 hRL hRD hRn
  go_region_held3 (fun w' => w'.cell? ⟨T.g, 1, none⟩ = some (.int .i64 (T.L.length : Nat)))
    (first | (simp [go_sem, hx1, hi1]; done))
    (first
      | (go_at_call 65; (with_reducible refine (parts_zero T at_ _ (HT.out.grows (by repeat' first | exact Grows.refl _ | refine Grows.more ?_ _ | refine Grows.alloc ?_ _ | refine Grows.drew ?_)) hat).mono ?_); rintro e w1 ⟨v1, rfl, hown1, m1, rfl⟩; obtain ⟨A1, c1, rfl, hc1, hc16, hA1, hn1, hs1⟩ := own_parts hown1; clear hown1; replace hA1 : Rd (more w m1) 1 A1 _ _ := hA1)
      | (go_at_call 43; (with_reducible refine (clone_any I ci ins _ (hI.grows (by repeat' first | exact Grows.refl _ | refine Grows.more ?_ _ | refine Grows.alloc ?_ _ | refine Grows.drew ?_)) (by omega) HN.out).mono ?_); rintro e w2 ⟨v2, rfl, hown2, m2, rfl⟩; obtain ⟨B, cb, rfl, hcb, hcb6, hB, hBn, hBs⟩ := pown_row hown2; clear hown2)
      | (go_at_call 65; (with_reducible refine (parts_sum T at_ del T.L.length _ (HT.out.grows (by repeat' first | exact Grows.refl _ | refine Grows.more ?_ _ | refine Grows.alloc ?_ _ | refine Grows.drew ?_)) had hs).mono ?_); rintro e w3 ⟨v3, rfl, hown3, m3, rfl⟩; obtain ⟨A3, c3, rfl, hc3, hc36, hA3, hn3, hs3⟩ := own_parts hown3; clear hown3)
      | (go_at_call 69; (with_reducible refine (concat3P A1 _ A3 c1 _ c3 _ _ _ (partsV T.ps 0 0 at_) [⟨B, cb, ins⟩] (partsV T.ps 0 (at_ + del) T.L.length) _ _ _ (by simp [go_sem]) (by rfl) (by simp) (by rfl) (PRow.ok_mk (hA1.grows (by repeat' first | exact Grows.refl _ | refine Grows.more ?_ _ | refine Grows.alloc ?_ _ | refine Grows.drew ?_)) hn1) (PRow.ok_mk (ps := [⟨B, cb, ins⟩]) (rd_one (v := .slice B ins.length cb) (by repeat' first | exact Grows.refl _ | refine Grows.more ?_ _ | refine Grows.alloc ?_ _ | refine Grows.drew ?_) (by simp [go_sem])) (fun h => by cases h)) (PRow.ok_mk (hA3.grows (by repeat' first | exact Grows.refl _ | refine Grows.more ?_ _ | refine Grows.alloc ?_ _ | refine Grows.drew ?_)) hn3) (by simp; omega)).mono ?_); rintro e w4 ⟨v4, rfl, hown4, m4, rfl⟩; generalize hR4 : partsV T.ps 0 0 at_ ++ ([⟨B, cb, ins⟩] ++ partsV T.ps 0 (at_ + del) T.L.length) = R at hown4; obtain ⟨A4, c4, rfl, hc4, hc46, hA4, hn4, hs4⟩ := own_parts hown4; clear hown4)
      | (go_at_call 68; (with_reducible refine (of_any A4 c4 R _ hA4 (by rw [← hR4]; exact (good_three (fun p hp => (HQ1.out p hp).grows (by repeat' first | exact Grows.refl _ | refine Grows.more ?_ _ | refine Grows.alloc ?_ _ | refine Grows.drew ?_)) (Part.good_mk (hB.grows (by repeat' first | exact Grows.refl _ | refine Grows.more ?_ _ | refine Grows.alloc ?_ _ | refine Grows.drew ?_)) hBn hcb hcb6) (fun p hp => (HQ3.out p hp).grows (by repeat' first | exact Grows.refl _ | refine Grows.more ?_ _ | refine Grows.alloc ?_ _ | refine Grows.drew ?_)))) (by rw [← hR4, HRn.out _ rfl]; exact hRlen) (by rw [← hR4, List.length_append, List.length_append, List.length_singleton]; omega)).mono ?_); rintro e w5 ⟨U, rfl, hU, hps, hUg, hUP, m5, rfl⟩))
  all_goals
    go_wp2_with fail
    go_ret2
    refine Or.inr ⟨rfl, U, rfl, ⟨hU, by unfold Tbl.L; rw [hps, fullV_lines, ← hR4]; exact HRn.out _ rfl, ?_⟩, fun b hb => ?_, ?_⟩
    · repeat' first | exact Grows.refl _ | refine Grows.more ?_ _ | refine Grows.alloc ?_ _ | refine Grows.drew ?_
    · rcases OfPost.uses hps (n := w.heap.size) (by have := hUg; simp [go_sem] at this; omega) (fun a ha => by have := hUP a ha; simp [go_sem] at this; omega) b hb with h | ⟨p, hp, hpl, a, ha, rfl⟩
      · exact .inr h
      · rw [← hR4] at hp
        simp only [List.mem_append, List.mem_singleton] at hp
        rcases hp with hp | rfl | hp
        · exact .inl (cut_uses hp ha)
        · have := (hBs a ha).2
          simp [go_sem] at this
          right; omega
        · exact .inl (cut_uses hp ha)
    · rw [hps, ← hR4]
      have := fullV_le (partsV T.ps 0 0 at_ ++ ([⟨B, cb, ins⟩] ++ partsV T.ps 0 (at_ + del) T.L.length))
      simp only [List.length_append, List.length_singleton] at this ⊢
      omega
end Go.Proofs.Ythanghgfakibnaa

/-
  Pieces: the walk of Splice, where it may not be; all together.
-/
namespace Go.Proofs.Ythanghgfakibnaa
open Go.RowKit

set_option maxRecDepth 3000 in
set_option maxHeartbeats 2000000 in
theorem splice_bad (T : Tbl) (at_ del : Int) (I : Option Addr) (ci : Nat) (ins : List (List UInt8)) (w : World) (hT : T.ok w) (hI : Rd w 1 I ins.length (lv ins)) (hi : ins.length ≤ 1000000) (hl : ∀ s ∈ ins, s.length ≤ 9223372036854775807) (ha : I64 at_) (hd : I64 del) (h : at_ < 0 ∨ del < 0 ∨ (T.L.length : Int) < at_ ∨ (T.L.length : Int) - at_ < del ∨ lcheckV ins = 2) :
    Calls Try.prog 42 #[T.val, .int .i64 at_, .int .i64 del, .slice I ins.length ci] w fun e w' => e = .returned (.tuple #[.pointer none, .int .i64 2]) ∧ w = w' := by
  have HL := Lib.hid hl
  have HH := Lib.hid h
  have hs : T.L.length ≤ 1000000 := hT.small
  have hc := hT.cells
  have hx1 := Blk.cell hc (by simp) 1
  have hi1 := Blk.inHeap hc (by simp)
  simp only [List.size_toArray, List.length_cons, List.length_nil, Nat.zero_add, Nat.reduceAdd, Nat.reduceLT, getElem?_pos, List.getElem_toArray, List.getElem_cons_succ, List.getElem_cons_zero] at hx1
  rw [show partsL T.ps = T.L from rfl] at hx1
  clear hl hc hT h
  rw [show T.val = .pointer (some ⟨T.g, 0, none⟩) from rfl]
  unfold I64 at ha hd
  by_cases h1 : at_ < 0
  · go_enter Try.func42, Try.ntmps42
    go_wp2_with fail
    (with_reducible refine (lcheck_any I ci ins _ hI (by omega) HL.out).mono ?_)
    rintro e w1 ⟨rfl, rfl⟩
    go_wp2_with fail
    go_ret2
    exact ⟨rfl, rfl⟩
  · by_cases h2 : del < 0
    · go_enter Try.func42, Try.ntmps42
      go_wp2_with fail
      (with_reducible refine (lcheck_any I ci ins _ hI (by omega) HL.out).mono ?_)
      rintro e w1 ⟨rfl, rfl⟩
      go_wp2_with fail
      go_ret2
      exact ⟨rfl, rfl⟩
    · by_cases h3 : (T.L.length : Int) < at_
      · go_enter Try.func42, Try.ntmps42
        go_wp2_with fail
        (with_reducible refine (lcheck_any I ci ins _ hI (by omega) HL.out).mono ?_)
        rintro e w1 ⟨rfl, rfl⟩
        go_wp2_with fail
        go_ret2
        exact ⟨rfl, rfl⟩
      · by_cases h4 : (T.L.length : Int) - at_ < del
        · go_enter Try.func42, Try.ntmps42
          go_wp2_with fail
          (with_reducible refine (lcheck_any I ci ins _ hI (by omega) HL.out).mono ?_)
          rintro e w1 ⟨rfl, rfl⟩
          go_wp2_with fail
          go_ret2
          exact ⟨rfl, rfl⟩
        · have HC : Hid (lcheckV ins = 2) := Lib.hid (by have := HH.out; omega)
          go_enter Try.func42, Try.ntmps42
          go_wp2_with fail
          (with_reducible refine (lcheck_any I ci ins _ hI (by omega) HL.out).mono ?_)
          rw [HC.out]
          rintro e w1 ⟨rfl, rfl⟩
          go_wp2_with fail
          go_ret2
          exact ⟨rfl, rfl⟩
set_option maxRecDepth 3000 in
set_option maxHeartbeats 2000000 in
theorem splice_long (T : Tbl) (at_ del : Int) (I : Option Addr) (ci : Nat) (ins : List (List UInt8)) (w : World) (hT : T.ok w) (hI : Rd w 1 I ins.length (lv ins)) (hi : ins.length ≤ 1000000) (hl : ∀ s ∈ ins, s.length ≤ 9223372036854775807) (ha : I64 at_) (hd : I64 del) (h : ¬ (at_ < 0 ∨ del < 0 ∨ (T.L.length : Int) < at_ ∨ (T.L.length : Int) - at_ < del ∨ lcheckV ins = 2)) (hh : lcheckV ins ≠ 0 ∨ 2000 < (T.L.length : Int) - del + ins.length) :
    Calls Try.prog 42 #[T.val, .int .i64 at_, .int .i64 del, .slice I ins.length ci] w fun e w' => e = .returned (.tuple #[.pointer none, .int .i64 3]) ∧ w = w' := by
  have HL := Lib.hid hl
  have HH := Lib.hid h
  have hs : T.L.length ≤ 1000000 := hT.small
  have hc := hT.cells
  have hx1 := Blk.cell hc (by simp) 1
  have hi1 := Blk.inHeap hc (by simp)
  simp only [List.size_toArray, List.length_cons, List.length_nil, Nat.zero_add, Nat.reduceAdd, Nat.reduceLT, getElem?_pos, List.getElem_toArray, List.getElem_cons_succ, List.getElem_cons_zero] at hx1
  rw [show partsL T.ps = T.L from rfl] at hx1
  have h1 : 0 ≤ at_ := by omega
  have h2 : 0 ≤ del := by omega
  have h3 : at_ ≤ (T.L.length : Int) := by omega
  have h4 : del ≤ (T.L.length : Int) - at_ := by omega
  have h5 : (lcheckV ins == 2) = false := by simp; omega
  clear hl hc hT h
  rw [show T.val = .pointer (some ⟨T.g, 0, none⟩) from rfl]
  unfold I64 at ha hd
  by_cases hz : lcheckV ins = 0
  · have HC := Lib.hid hz
    have h6 : 2000 < (T.L.length : Int) - del + ins.length := by omega
    clear hh h5 hz
    go_enter Try.func42, Try.ntmps42
    go_wp2_with fail
    (with_reducible refine (lcheck_any I ci ins _ hI (by omega) HL.out).mono ?_)
    rw [HC.out]
    rintro e w1 ⟨rfl, rfl⟩
    go_wp2_with fail
    go_ret2
    exact ⟨rfl, rfl⟩
  · have h6 : (lcheckV ins != 0) = true := by simpa using hz
    clear hh hz
    go_enter Try.func42, Try.ntmps42
    go_wp2_with fail
    (with_reducible refine (lcheck_any I ci ins _ hI (by omega) HL.out).mono ?_)
    rintro e w1 ⟨rfl, rfl⟩
    go_wp2_with fail
    go_ret2
    exact ⟨rfl, rfl⟩
set_option maxRecDepth 3000 in
theorem splice_nil (at_ del : Int) (I : Option Addr) (n ci : Nat) (w : World) :
    Calls Try.prog 42 #[.pointer none, .int .i64 at_, .int .i64 del, .slice I n ci] w fun e w' => e = .returned (.tuple #[.pointer none, .int .i64 1]) ∧ w = w' := by
  go_enter Try.func42, Try.ntmps42
  go_wp2_with fail
  go_ret2
  exact ⟨rfl, rfl⟩
set_option maxRecDepth 3000 in
theorem splice_any (T : Tbl) (at_ del : Int) (I : Option Addr) (ci : Nat) (ins : List (List UInt8)) (w : World) (hT : T.ok w) (hI : Rd w 1 I ins.length (lv ins)) (hnI : I = none → ins.length = 0 ∧ ci = 0) (hi : ins.length ≤ 1000000) (hl : ∀ s ∈ ins, s.length ≤ 9223372036854775807) (ha : I64 at_) (hd : I64 del) :
    Calls Try.prog 42 #[T.val, .int .i64 at_, .int .i64 del, .slice I ins.length ci] w (SpliceOut T (spliceV T.L at_ del ins) w) := by
  by_cases h : at_ < 0 ∨ del < 0 ∨ (T.L.length : Int) < at_ ∨ (T.L.length : Int) - at_ < del ∨ lcheckV ins = 2
  · refine (splice_bad T at_ del I ci ins w hT hI hi hl ha hd h).mono ?_
    rintro e w' ⟨rfl, rfl⟩
    have e : spliceV T.L at_ del ins = ([], 2) := by unfold spliceV; rw [if_pos h]
    rw [e]
    exact .inl ⟨by simp, rfl, Grows.refl _⟩
  · by_cases hh : lcheckV ins ≠ 0 ∨ 2000 < (T.L.length : Int) - del + ins.length
    · refine (splice_long T at_ del I ci ins w hT hI hi hl ha hd h hh).mono ?_
      rintro e w' ⟨rfl, rfl⟩
      have e : spliceV T.L at_ del ins = ([], 3) := by unfold spliceV; rw [if_neg h, if_pos hh]
      rw [e]
      exact .inl ⟨by simp, rfl, Grows.refl _⟩
    · have hck : lcheckV ins = 0 := by
        apply Classical.byContradiction; intro k; exact hh (.inl k)
      obtain ⟨a, rfl⟩ : ∃ a : Nat, at_ = a := ⟨at_.toNat, by omega⟩
      obtain ⟨d, rfl⟩ : ∃ d : Nat, del = d := ⟨del.toNat, by omega⟩
      have e : spliceV T.L a d ins = (T.L.take a ++ (ins ++ T.L.drop (a + d)), 0) := by unfold spliceV; rw [if_neg h, if_neg hh]; rfl
      rw [e]
      exact splice_yes T a d I ci ins w hT hI hnI hi hl hck (by omega) (by omega)
end Go.Proofs.Ythanghgfakibnaa
