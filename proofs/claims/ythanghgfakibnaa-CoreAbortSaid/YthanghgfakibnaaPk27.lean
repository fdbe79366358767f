/-
  Splices: done on a splice that may be.
-/
import Derived.Test.YthanghgfakibnaaPk26
namespace Go.Proofs.Ythanghgfakibnaa
open Go.RowKit

set_option maxRecDepth 3000 in
/-- Concat of three parts that were laid in a block of their own. -/
theorem concat3 (A1 A2 A3 : Option Addr) (c1 c2 c3 n1 n2 n3 : Nat) (d1 d2 d3 : List (List UInt8)) (w : World) (g ty : Nat) (hg : g = w.heap.size) (h1 : n1 = d1.length) (h2 : n2 = d2.length) (h3 : n3 = d3.length)
    (r1 : (Part.mk A1 c1 d1).ok w) (r2 : (Part.mk A2 c2 d2).ok w) (r3 : (Part.mk A3 c3 d3).ok w) (hl : d1.length + (d2.length + d3.length) ≤ 8000000000000) :
    Calls Try.prog 75 #[.slice (some ⟨g, 0, none⟩) 3 3] (w.alloc (.cells #[.slice A1 n1 c1, .slice A2 n2 c2, .slice A3 n3 c3] ty)) (NewLines (d1 ++ (d2 ++ d3)) (w.alloc (.cells #[.slice A1 n1 c1, .slice A2 n2 c2, .slice A3 n3 c3] ty))) := by
  subst hg h1 h2 h3
  have hgr : Grows w (w.alloc (.cells #[.slice A1 d1.length c1, .slice A2 d2.length c2, .slice A3 d3.length c3] ty)) := (Grows.refl _).alloc _
  have := concat_any w.heap.size [⟨A1, c1, d1⟩, ⟨A2, c2, d2⟩, ⟨A3, c3, d3⟩] 3 3 (w.alloc (.cells #[.slice A1 d1.length c1, .slice A2 d2.length c2, .slice A3 d3.length c3] ty)) rfl ?_ ?_ ?_ (by simp)
  · simpa [partsL] using this
  · refine ⟨rfl, fun _ => ⟨w.heap.size, 0, rfl, ?_, fun j u hu => ?_⟩⟩
    · simp [go_sem]
    · simp only [List.map_cons, List.map_nil, Part.val] at hu
      match j, hu with
      | 0, hu => simp at hu; subst hu; simp [go_sem]
      | 1, hu => simp at hu; subst hu; simp [go_sem]
      | 2, hu => simp at hu; subst hu; simp [go_sem]
      | k + 3, hu => simp at hu
  · intro p hp
    simp only [List.mem_cons, List.not_mem_nil, or_false] at hp
    rcases hp with rfl | rfl | rfl
    · exact Part.grows r1 hgr
    · exact Part.grows r2 hgr
    · exact Part.grows r3 hgr
  · simpa [partsL] using hl

set_option maxRecDepth 3000 in
set_option maxHeartbeats 2000000 in
theorem done_yes1 (b o : Nat) (I : Option Addr) (cap ci : Nat) (d ins : List (List UInt8)) (a_ del : Nat) (w : World) (hA : Rd w 1 (some ⟨b, o, none⟩) d.length (lv d)) (hI : Rd w 1 I ins.length (lv ins)) (hcap : d.length ≤ cap) (hc63 : cap ≤ 9223372036854775807) (hd : d.length ≤ 1000000) (hi : ins.length ≤ 1000000) (hl : ∀ s ∈ ins, s.length ≤ 9223372036854775807) (hnil : I = none → ins.length = 0 ∧ ci = 0) (h1 : spCheckV a_ del ins = 0) (h2 : a_ + del ≤ d.length) (h3 : ¬ 2000 < (d.length : Int) - del + ins.length) (h4 : a_ + del < cap) :
    Calls Try.prog 50 #[.slice (some ⟨b, o, none⟩) d.length cap, .agg #[.int .i64 a_, .int .i64 del, .slice I ins.length ci]] w (DonePost (d.take a_ ++ (ins ++ d.drop (a_ + del)), 0) w) := by
  have HL := Lib.hid hl
  clear hl
  have HC := Lib.hid h1
  clear h1
  go_enter Try.func50, Try.ntmps50
  go_wp2_with fail
  (with_reducible refine (spCheck_any _ _ I ci ins _ (by exact hI.grows ((Grows.refl _).alloc _)) (by omega) HL.out).mono ?_)
  rw [HC.out]
  rintro e w' ⟨rfl, m1, rfl⟩
  go_wp2_with fail
  go_upto_region 9 with fail
  refine region_tail 13 (by kernel_rfl) (by kernel_rfl) ?_
  simp only [List.take_succ_cons, List.take_zero, List.drop_succ_cons, List.drop_zero]
  repeat (go_big_quiet_step (fail))
  refine wpQuiet_nil ?_
  intro _ hw'
  obtain ⟨m2, rfl⟩ := hw'
  go_wp2_with fail
  have hg : Grows w (more (more (w.alloc (.cells #[.int .i64 a_, .int .i64 del, .slice I ins.length ci] 24)) m1) m2) := (((Grows.refl _).alloc _).more _).more _
  (with_reducible refine (concat3 _ _ _ _ _ _ _ _ _ (d.take a_) ins (d.drop (a_ + del)) _ _ _ ?_ ?_ ?_ ?_ ?_ ?_ ?_ ?_).mono ?_)
  · simp [go_sem]
  · simp; omega
  · rfl
  · simp
  · exact ⟨(hA.grows hg).take_ _, fun h => by cases h⟩
  · exact ⟨hI.grows hg, hnil⟩
  · exact ⟨(hA.grows hg).drop_ _, fun h => by cases h⟩
  · simp; omega
  rintro e w3 ⟨v, rfl, hown, m3, rfl⟩
  go_wp2_with fail
  go_ret2
  refine ⟨_, rfl, own_le hown ?_, ?_⟩
  · simp [go_sem]; try omega
  · repeat' first | exact Grows.refl _ | refine Grows.more ?_ _ | refine Grows.alloc ?_ _

set_option maxRecDepth 3000 in
set_option maxHeartbeats 2000000 in
theorem done_yes2 (b o : Nat) (I : Option Addr) (cap ci : Nat) (d ins : List (List UInt8)) (a_ del : Nat) (w : World) (hA : Rd w 1 (some ⟨b, o, none⟩) d.length (lv d)) (hI : Rd w 1 I ins.length (lv ins)) (hcap : d.length ≤ cap) (hc63 : cap ≤ 9223372036854775807) (hd : d.length ≤ 1000000) (hi : ins.length ≤ 1000000) (hl : ∀ s ∈ ins, s.length ≤ 9223372036854775807) (hnil : I = none → ins.length = 0 ∧ ci = 0) (h1 : spCheckV a_ del ins = 0) (h2 : a_ + del ≤ d.length) (h3 : ¬ 2000 < (d.length : Int) - del + ins.length) (h4 : a_ + del = cap) :
    Calls Try.prog 50 #[.slice (some ⟨b, o, none⟩) d.length cap, .agg #[.int .i64 a_, .int .i64 del, .slice I ins.length ci]] w (DonePost (d.take a_ ++ (ins ++ d.drop (a_ + del)), 0) w) := by
  have HL := Lib.hid hl
  clear hl
  have HC := Lib.hid h1
  clear h1
  go_enter Try.func50, Try.ntmps50
  go_wp2_with fail
  (with_reducible refine (spCheck_any _ _ I ci ins _ (by exact hI.grows ((Grows.refl _).alloc _)) (by omega) HL.out).mono ?_)
  rw [HC.out]
  rintro e w' ⟨rfl, m1, rfl⟩
  go_wp2_with fail
  go_upto_region 9 with fail
  refine region_tail 13 (by kernel_rfl) (by kernel_rfl) ?_
  simp only [List.take_succ_cons, List.take_zero, List.drop_succ_cons, List.drop_zero]
  repeat (go_big_quiet_step (fail))
  refine wpQuiet_nil ?_
  intro _ hw'
  obtain ⟨m2, rfl⟩ := hw'
  go_wp2_with fail
  have hg : Grows w (more (more (w.alloc (.cells #[.int .i64 a_, .int .i64 del, .slice I ins.length ci] 24)) m1) m2) := (((Grows.refl _).alloc _).more _).more _
  (with_reducible refine (concat3 _ _ _ _ _ _ _ _ _ (d.take a_) ins (d.drop (a_ + del)) _ _ _ ?_ ?_ ?_ ?_ ?_ ?_ ?_ ?_).mono ?_)
  · simp [go_sem]
  · simp; omega
  · rfl
  · simp; omega
  · exact ⟨(hA.grows hg).take_ _, fun h => by cases h⟩
  · exact ⟨hI.grows hg, hnil⟩
  · exact ⟨Rd.none_ (by simp; omega), fun h => by cases h⟩
  · simp; omega
  rintro e w3 ⟨v, rfl, hown, m3, rfl⟩
  go_wp2_with fail
  go_ret2
  refine ⟨_, rfl, own_le hown ?_, ?_⟩
  · simp [go_sem]; try omega
  · repeat' first | exact Grows.refl _ | refine Grows.more ?_ _ | refine Grows.alloc ?_ _

set_option maxRecDepth 3000 in
set_option maxHeartbeats 2000000 in
theorem done_yes0 (I : Option Addr) (ci : Nat) (ins : List (List UInt8)) (w : World) (hI : Rd w 1 I ins.length (lv ins)) (hi : ins.length ≤ 1000000) (hl : ∀ s ∈ ins, s.length ≤ 9223372036854775807) (hnil : I = none → ins.length = 0 ∧ ci = 0) (h1 : spCheckV 0 0 ins = 0) (h3 : ¬ 2000 < (ins.length : Int)) :
    Calls Try.prog 50 #[.slice none 0 0, .agg #[.int .i64 0, .int .i64 0, .slice I ins.length ci]] w (DonePost (ins, 0) w) := by
  have HL := Lib.hid hl
  clear hl
  have HC := Lib.hid h1
  clear h1
  go_enter Try.func50, Try.ntmps50
  go_wp2_with fail
  (with_reducible refine (spCheck_any 0 0 I ci ins _ (by exact hI.grows ((Grows.refl _).alloc _)) (by omega) HL.out).mono ?_)
  rw [HC.out]
  rintro e w' ⟨rfl, m1, rfl⟩
  go_wp2_with fail
  go_upto_region 9 with fail
  refine region_tail 13 (by kernel_rfl) (by kernel_rfl) ?_
  simp only [List.take_succ_cons, List.take_zero, List.drop_succ_cons, List.drop_zero]
  repeat (go_big_quiet_step (fail))
  refine wpQuiet_nil ?_
  intro _ hw'
  obtain ⟨m2, rfl⟩ := hw'
  go_wp2_with fail
  have hg : Grows w (more (more (w.alloc (.cells #[.int .i64 0, .int .i64 0, .slice I ins.length ci] 24)) m1) m2) := (((Grows.refl _).alloc _).more _).more _
  (with_reducible refine (concat3 _ _ _ _ _ _ _ _ _ [] ins [] _ _ _ ?_ ?_ ?_ ?_ ?_ ?_ ?_ ?_).mono ?_)
  · simp [go_sem]
  · rfl
  · rfl
  · rfl
  · exact ⟨Rd.nil_, fun _ => ⟨rfl, rfl⟩⟩
  · exact ⟨hI.grows hg, hnil⟩
  · exact ⟨Rd.nil_, fun _ => ⟨rfl, rfl⟩⟩
  · simp; omega
  rw [List.nil_append, List.append_nil]
  rintro e w3 ⟨v, rfl, hown, m3, rfl⟩
  go_wp2_with fail
  go_ret2
  refine ⟨_, rfl, own_le hown ?_, ?_⟩
  · simp [go_sem]; try omega
  · repeat' first | exact Grows.refl _ | refine Grows.more ?_ _ | refine Grows.alloc ?_ _

set_option maxRecDepth 3000 in
theorem done_any (A I : Option Addr) (cap ci : Nat) (d ins : List (List UInt8)) (at_ del : Int) (w : World) (hA : Rd w 1 A d.length (lv d)) (hsl : A = none → d.length = 0 ∧ cap = 0) (hso : ∀ a, A = some a → a.spot = none) (hcap : d.length ≤ cap) (hc63 : cap ≤ 9223372036854775807) (hI : Rd w 1 I ins.length (lv ins)) (hnil : I = none → ins.length = 0 ∧ ci = 0) (hd : d.length ≤ 1000000) (hi : ins.length ≤ 1000000) (hl : ∀ s ∈ ins, s.length ≤ 9223372036854775807) (ha : I64 at_) (hde : I64 del) :
    Calls Try.prog 50 #[.slice A d.length cap, .agg #[.int .i64 at_, .int .i64 del, .slice I ins.length ci]] w (DonePost (doneV d at_ del ins) w) := by
  by_cases hno : (doneV d at_ del ins).2 ≠ 0
  · exact done_no A I cap ci d ins at_ del w hI hd hi hl ha hde hno
  · unfold I64 at ha hde
    have h1 : spCheckV at_ del ins = 0 := Classical.byContradiction fun h => hno (by simp [doneV, h])
    have h2 : ¬ ((d.length : Int) < at_ ∨ (d.length : Int) - at_ < del) := fun h => hno (by simp only [doneV, h1, h, if_true, ne_eq, not_true_eq_false, if_false]; decide)
    have h3 : ¬ 2000 < (d.length : Int) - del + ins.length := fun h => hno (by simp only [doneV, h1, h2, h, if_true, ne_eq, not_true_eq_false, if_false]; decide)
    have hV : doneV d at_ del ins = (d.take at_.toNat ++ (ins ++ d.drop (at_ + del).toNat), 0) := by simp only [doneV, h1, h2, h3, ne_eq, not_true_eq_false, if_false]
    have hmin : ¬ min at_ del < 0 := by
      intro h; simp [spCheckV, h] at h1
    rw [hV]
    obtain ⟨a_, rfl⟩ : ∃ n : Nat, at_ = n := ⟨at_.toNat, by omega⟩
    obtain ⟨e_, rfl⟩ : ∃ n : Nat, del = n := ⟨del.toNat, by omega⟩
    have e1 : ((a_ : Int)).toNat = a_ := by omega
    have e2 : ((a_ : Int) + (e_ : Int)).toNat = a_ + e_ := by omega
    rw [e1, e2]
    match A, hA, hsl, hso with
    | none, _, hsl, _ =>
      obtain ⟨hz, rfl⟩ := hsl rfl
      obtain rfl := List.eq_nil_of_length_eq_zero hz
      simp only [List.length_nil] at h2 h3
      obtain rfl : a_ = 0 := by omega
      obtain rfl : e_ = 0 := by omega
      simpa using done_yes0 I ci ins w hI hi hl hnil (by simpa using h1) (by omega)
    | some ⟨b, o, s⟩, hA, _, hso =>
      obtain rfl : s = none := hso _ rfl
      by_cases h4 : a_ + e_ < cap
      · exact done_yes1 b o I cap ci d ins a_ e_ w hA hI hcap hc63 hd hi hl hnil h1 (by omega) h3 h4
      · exact done_yes2 b o I cap ci d ins a_ e_ w hA hI hcap hc63 hd hi hl hnil h1 (by omega) h3 (by omega)
end Go.Proofs.Ythanghgfakibnaa
