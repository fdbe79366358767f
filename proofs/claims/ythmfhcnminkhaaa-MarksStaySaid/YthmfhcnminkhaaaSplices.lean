/-
  Splices: the walks of Check and done.
-/
import Derived.Test.YthmfhcnminkhaaaSlices
import Derived.Test.YthmfhcnminkhaaaTail
namespace Go.Proofs.Ythmfhcnminkhaaa
open Go.RowKit

/-- May a splice be? -/
def spCheckV (at_ del : Int) (ins : List (List UInt8)) : Int := if min at_ del < 0 then 2 else lcheckV ins
/-- What comes of a splice: the lines, and the error. -/
def doneV (d : List (List UInt8)) (at_ del : Int) (ins : List (List UInt8)) : List (List UInt8) × Int :=
  if spCheckV at_ del ins ≠ 0 then ([], spCheckV at_ del ins) else
  if (d.length : Int) < at_ ∨ (d.length : Int) - at_ < del then ([], 2) else
  if 2000 < (d.length : Int) - del + ins.length then ([], 3) else
  (d.take at_.toNat ++ (ins ++ d.drop (at_ + del).toNat), 0)
theorem lcheckV_range (d : List (List UInt8)) : lcheckV d = 0 ∨ lcheckV d = 2 ∨ lcheckV d = 3 := by
  unfold lcheckV; split
  · simp
  · split <;> simp

set_option maxHeartbeats 1000000 in
theorem spCheck_any (at_ del : Int) (A : Option Addr) (cap : Nat) (ins : List (List UInt8)) (w : World) (hA : Rd w 1 A ins.length (lv ins)) (hd : ins.length ≤ 9223372036854775807) (hl : ∀ s ∈ ins, s.length ≤ 9223372036854775807) :
    Calls Try.prog 29 #[.agg #[.int .i64 at_, .int .i64 del, .slice A ins.length cap]] w fun e w' => e = .returned (.int .i64 (spCheckV at_ del ins)) ∧ Grows w w' := by
  have HL := Lib.hid hl
  clear hl
  by_cases h : min at_ del < 0
  · have HV : Hid (spCheckV at_ del ins = 2) := Lib.hid (by simp [spCheckV, h])
    go_enter Try.func29, Try.ntmps29
    go_wp2_with fail
    go_ret
    exact ⟨by rw [HV.out]; rfl, (Grows.refl _).alloc _⟩
  · have HV : Hid (spCheckV at_ del ins = lcheckV ins) := Lib.hid (by simp only [spCheckV, h, if_false])
    go_enter Try.func29, Try.ntmps29
    go_wp2_with fail
    (with_reducible refine (lcheck_any A cap ins _ (by exact hA.grows ((Grows.refl _).alloc _)) hd HL.out).mono ?_)
    rintro e w' ⟨rfl, rfl⟩
    go_wp2_with fail
    go_ret
    exact ⟨by rw [HV.out]; rfl, (Grows.refl _).alloc _⟩

theorem Rd.take_ {w : World} {A : Option Addr} {d : List (List UInt8)} (h : Rd w 1 A d.length (lv d)) (k : Nat) : Rd w 1 A (d.take k).length (lv (d.take k)) := by
  refine ⟨by simp [lv], fun hn => ?_⟩
  obtain ⟨b, o, e, hb, hc⟩ := h.2 (by simp at hn; omega)
  refine ⟨b, o, e, hb, fun j u hu => hc j u ?_⟩
  simp only [lv, List.map_take, List.getElem?_take] at hu ⊢
  split at hu
  · exact hu
  · cases hu
theorem Rd.drop_ {w : World} {b o : Nat} {d : List (List UInt8)} (h : Rd w 1 (some ⟨b, o, none⟩) d.length (lv d)) (k : Nat) : Rd w 1 (some ⟨b, o + k, none⟩) (d.drop k).length (lv (d.drop k)) := by
  refine ⟨by simp [lv], fun hn => ?_⟩
  obtain ⟨b', o', e, hb, hc⟩ := h.2 (by simp at hn; omega)
  injection e with e
  injection e with e1 e2
  subst e1 e2
  refine ⟨b, o + k, rfl, hb, fun j u hu => ?_⟩
  have := hc (k + j) u (by simpa [lv, List.map_drop, List.getElem?_drop] using hu)
  rwa [← Nat.add_assoc] at this
theorem Rd.none_ {w : World} {A : Option Addr} {d : List (List UInt8)} (h : d.length = 0) : Rd w 1 A d.length (lv d) := by
  obtain rfl := List.eq_nil_of_length_eq_zero h
  exact Rd.nil_

/-- What done answers: nothing and an error, or new memory. -/
def DonePost (x : List (List UInt8) × Int) (w : World) (e : Ending) (w' : World) : Prop := ∃ v, e = .returned (.tuple #[v, .int .i64 x.2]) ∧ w'.ownsRow w.heap.size 9 1 v x.1.length (lv x.1) ∧ Grows w w'

set_option maxHeartbeats 2000000 in
theorem done_no (A I : Option Addr) (cap ci : Nat) (d ins : List (List UInt8)) (at_ del : Int) (w : World) (hI : Rd w 1 I ins.length (lv ins)) (hd : d.length ≤ 1000000) (hi : ins.length ≤ 1000000) (hl : ∀ s ∈ ins, s.length ≤ 9223372036854775807) (ha : I64 at_) (hde : I64 del)
    (hno : (doneV d at_ del ins).2 ≠ 0) :
    Calls Try.prog 24 #[.slice A d.length cap, .agg #[.int .i64 at_, .int .i64 del, .slice I ins.length ci]] w (DonePost (doneV d at_ del ins) w) := by
  have HL := Lib.hid hl
  clear hl
  unfold I64 at ha hde
  by_cases h1 : spCheckV at_ del ins ≠ 0
  · have HV : Hid (doneV d at_ del ins = ([], spCheckV at_ del ins)) := Lib.hid (by simp [doneV, h1])
    have h1' : (spCheckV at_ del ins != 0) = true := by simpa using h1
    clear h1 hno
    go_enter Try.func24, Try.ntmps24
    go_wp2_with fail
    (with_reducible refine (spCheck_any at_ del I ci ins _ (by exact hI.grows ((Grows.refl _).alloc _)) (by omega) HL.out).mono ?_)
    rintro e w' ⟨rfl, m1, rfl⟩
    go_wp2_with fail
    go_ret2
    rw [HV.out]
    exact ⟨_, rfl, World.ownsRow_nil _ _ _ _, ((Grows.refl _).alloc _).more _⟩
  · have h1' : spCheckV at_ del ins = 0 := by simpa using h1
    have hmin : ¬ min at_ del < 0 := by
      intro h; simp [spCheckV, h] at h1'
    have ha0 : 0 ≤ at_ := by omega
    have hd0 : 0 ≤ del := by omega
    have HC := Lib.hid h1'
    by_cases h2 : (d.length : Int) < at_ ∨ (d.length : Int) - at_ < del
    · have HV : Hid (doneV d at_ del ins = ([], 2)) := Lib.hid (by simp only [doneV, h1', h2, if_true, ne_eq, not_true_eq_false, if_false])
      clear h1 h1' hno
      have hor : (d.length : Int) < at_ ∨ (at_ ≤ (d.length : Int) ∧ (d.length : Int) - at_ < del) := by omega
      rcases hor with hor | ⟨hor, hor2⟩
      all_goals
        go_enter Try.func24, Try.ntmps24
        go_wp2_with fail
        (with_reducible refine (spCheck_any at_ del I ci ins _ (by exact hI.grows ((Grows.refl _).alloc _)) (by omega) HL.out).mono ?_)
        rw [HC.out]
        rintro e w' ⟨rfl, m1, rfl⟩
        go_wp2_with fail
        go_ret2
        rw [HV.out]
        exact ⟨_, rfl, World.ownsRow_nil _ _ _ _, ((Grows.refl _).alloc _).more _⟩
    · have h3 : 2000 < (d.length : Int) - del + ins.length := by
        apply Classical.byContradiction
        intro h3
        exact hno (by simp only [doneV, h1', h2, h3, ne_eq, not_true_eq_false, if_false])
      have HV : Hid (doneV d at_ del ins = ([], 3)) := Lib.hid (by simp only [doneV, h1', h2, h3, if_true, ne_eq, not_true_eq_false, if_false])
      have h4 : at_ ≤ (d.length : Int) := by omega
      have h5 : del ≤ (d.length : Int) - at_ := by omega
      clear h1 h1' hno h2
      go_enter Try.func24, Try.ntmps24
      go_wp2_with fail
      (with_reducible refine (spCheck_any at_ del I ci ins _ (by exact hI.grows ((Grows.refl _).alloc _)) (by omega) HL.out).mono ?_)
      rw [HC.out]
      rintro e w' ⟨rfl, m1, rfl⟩
      go_wp2_with fail
      go_ret2
      rw [HV.out]
      exact ⟨_, rfl, World.ownsRow_nil _ _ _ _, ((Grows.refl _).alloc _).more _⟩
end Go.Proofs.Ythmfhcnminkhaaa
