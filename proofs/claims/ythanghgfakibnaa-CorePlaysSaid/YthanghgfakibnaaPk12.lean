/-
  Several texts of the proof: PiecesSpl, PiecesPtr.
-/
import Derived.Test.YthanghgfakibnaaPk08
import Derived.Test.YthanghgfakibnaaPk11
/-
  Pieces: the walk of the document's Splice.
-/
namespace Go.Proofs.Ythanghgfakibnaa
open Go.RowKit

set_option maxRecDepth 3000 in
theorem Rd.take_' {w : World} {A : Option Addr} {d : List (List UInt8)} (h : Rd w 1 A d.length (lv d)) (k : Nat) : Rd w 1 A (d.take k).length (lv (d.take k)) := by
  refine ⟨by simp [lv], fun hn => ?_⟩
  obtain ⟨b, o, e, hb, hc⟩ := h.2 (by simp at hn; omega)
  refine ⟨b, o, e, hb, fun j u hu => hc j u ?_⟩
  simp only [lv, List.map_take, List.getElem?_take] at hu ⊢
  split at hu
  · exact hu
  · cases hu
set_option maxRecDepth 3000 in
theorem Rd.drop_' {w : World} {a : Addr} {d : List (List UInt8)} (h : Rd w 1 (some a) d.length (lv d)) (k n : Nat) (hn : n = d.length - k) : Rd w 1 (some (a.add k)) n (lv (d.drop k)) := by
  subst hn
  refine ⟨by simp [lv], fun hn => ?_⟩
  obtain ⟨b, o, e, hb, hc⟩ := h.2 (by omega)
  injection e with e
  subst e
  refine ⟨b, o + k, by congr 1; unfold Addr.add; split <;> simp_all, hb, fun j u hu => ?_⟩
  have := hc (k + j) u (by simpa [lv, List.map_drop, List.getElem?_drop] using hu)
  rwa [← Nat.add_assoc] at this
set_option maxRecDepth 3000 in
set_option maxHeartbeats 2000000 in
theorem refSplice_some (a : Addr) (I : Option Addr) (cap ci : Nat) (d ins : List (List UInt8)) (at_ del : Nat) (w : World) (hA : Rd w 1 (some a) d.length (lv d)) (hcap : d.length ≤ cap) (hc63 : cap ≤ 9223372036854775807) (hI : Rd w 1 I ins.length (lv ins)) (hnI : I = none → ins.length = 0 ∧ ci = 0) (hd : d.length ≤ 1000000) (hi : ins.length ≤ 1000000) (hl : ∀ s ∈ ins, s.length ≤ 9223372036854775807) (h1 : at_ + del ≤ d.length) (h2 : (lcheckV ins == 2) = false) :
    Calls Try.prog 78 #[.slice (some a) d.length cap, .int .i64 at_, .int .i64 del, .slice I ins.length ci] w (SplPost (spliceV d at_ del ins) w) := by
  obtain ⟨i0, hi, hz0, hz1, hz2⟩ := info_parts infoStr
  have HL := Lib.hid hl
  clear hl
  have d1 : decide ((at_ : Int) < 0) = false := by simp
  have d2 : decide ((del : Int) < 0) = false := by simp
  have d3 : decide (d.length < at_) = false := by simp; omega
  have d4 : decide ((d.length : Int) - at_ < del) = false := by simp; omega
  have hmade : (w.alloc (.cells #[] 9)).ownsRow w.heap.size 9 1 (.slice (some ⟨w.heap.size, 0, none⟩) 0 0) 0 [] := World.ownsRow_made w #[] 0 (Nat.le_refl _) (by decide) rfl
  have hA1 : Rd (w.alloc (.cells #[] 9)) 1 (some a) at_ (lv (d.take at_)) := by
    have := (Rd.take_' hA at_).grows ((Grows.refl w).alloc (.cells #[] 9))
    rwa [List.length_take, Nat.min_eq_left (by omega)] at this
  have hd1 : (d.take at_).length = at_ := by simp; omega
  go_enter Try.func78, Try.ntmps78
  go_wp2_with fail
  (with_reducible refine (refCheck_any I ci ins _ hI (by omega) HL.out).mono ?_)
  rintro e w' ⟨rfl, rfl⟩
  go_wp2_with (at_builtin; refine wpList_append_rd _ rfl (.tmp 36) (.tmp 39) 22 rfl w.heap.size 9 i0 (.string ⟨#[]⟩) 16 Try.underlying22 hi hz0 hz1 hz2 rfl _ _ _ rfl hmade (some a) at_ cap (lv (d.take at_)) rfl (fun h => by cases h) hA1 (lv_one _) (by unfold maxLen; omega) (by omega) (by simp) ?_; intro v1 w1 hown1 hgrow1; simp only [Nat.zero_add, List.nil_append] at hown1; have hb1 := own_first hgrow1; clear hgrow1)
  have hown1' : w1.drew.ownsRow w.heap.size 9 1 v1 at_ (lv (d.take at_)) := hown1.drew
  have hg1 : Grows w w1.drew := (Grows.of_below hb1).drew
  have hb1' := hg1.below
  have hs1 := hb1'.size
  have hI1 := hI.grows hg1
  have HI0 := Lib.hid hI
  obtain ⟨X, hX1, hX⟩ : ∃ X, (if cap = at_ + del then some a else some (a.add (at_ + del))) = some X ∧ Rd w 1 (some X) (d.length - (at_ + del)) (lv (d.drop (at_ + del))) := by
    split
    · have : d.length - (at_ + del) = 0 := by omega
      rw [this, List.drop_eq_nil_of_le (by omega)]
      exact ⟨a, rfl, Rd.nil_⟩
    · exact ⟨_, rfl, Rd.drop_' hA _ _ rfl⟩
  have hw1 : IntKind.i64.wrap ((at_ : Int) + del) = (at_ : Int) + del := by rw [IntWalk.i64_left]; unfold wrap64; omega
  have hw2 : ((at_ : Int) + (del : Int)).toNat = at_ + del := by omega
  have hw3 : (0 : Int) ≤ (at_ : Int) + del := by omega
  have hw4 : (at_ : Int) + del ≤ (d.length : Int) := by omega
  have hdl : (d.drop (at_ + del)).length = d.length - (at_ + del) := by simp
  have HD := Lib.hid hdl
  have HN := Lib.hid hnI
  have HR := Lib.hid hd1
  clear hdl hnI hd1 hmade hA1 hA hI hb1 hown1 hg1
  go_region_law (first
    | (refine step_append_rd _ rfl (.tmp 41) (.tmp 42) 22 rfl w.heap.size 9 i0 (.string ⟨#[]⟩) 16 Try.underlying22 hi hz0 hz1 hz2 rfl v1 at_ _ (by simp [Act.eval, Act.put]) hown1' I ins.length ci (lv ins) (by simp [Act.eval, Act.put]) HN.out hI1 (lv_one _) (by unfold maxLen; omega) (by omega) hs1 ?_; intro v2 w2 hown2 hgrow2; have hb2 := own_next hb1' hown1' hgrow2; have hs2 := hb2.size; clear hgrow2)
    | (refine step_append_rd _ rfl (.tmp 43) (.tmp 48) 22 rfl w.heap.size 9 i0 (.string ⟨#[]⟩) 16 Try.underlying22 hi hz0 hz1 hz2 rfl _ (at_ + ins.length) _ (by simp [Act.eval, Act.put]) hown2 _ (d.length - (at_ + del)) (cap - (at_ + del)) (lv (d.drop (at_ + del))) (by simp [Act.eval, Act.put]) (fun h => by cases h) (hX.grows (Grows.of_below hb2)) (lv_one _) (by unfold maxLen; omega) (by omega) hs2 ?_; intro v3 w3 hown3 hgrow3; have hb3 := own_next hb2 hown2 hgrow3; have hs3 := hb3.size; clear hgrow3))
  have hRl : (d.take at_ ++ (ins ++ d.drop (at_ + del))).length = at_ + ins.length + (d.length - (at_ + del)) := by simp; omega
  have hR3 : w3.ownsRow w.heap.size 9 1 v3 (d.take at_ ++ (ins ++ d.drop (at_ + del))).length (lv (d.take at_ ++ (ins ++ d.drop (at_ + del)))) := by
    rw [hRl, ← lv_append, ← lv_append, ← List.append_assoc]; exact hown3
  have HRL := Lib.hid hRl
  have hI3 := HI0.out.grows (Grows.of_below hb3)
  generalize hRd : d.take at_ ++ (ins ++ d.drop (at_ + del)) = R at hR3 HRL
  have hR9 : R.length ≤ 9000000 := by have := HRL.out; omega
  obtain ⟨A3, c3, rfl, hc3, hc36, -⟩ := own_rd hR3
  have HRd := Lib.hid hRd
  clear hRd hown3 hX
  have hno : ¬ ((at_ : Int) < 0 ∨ (del : Int) < 0 ∨ (d.length : Int) < at_ ∨ (d.length : Int) - at_ < del ∨ lcheckV ins = 2) := by
    have := h2; simp at this; omega
  by_cases hz : lcheckV ins = 0
  · have HZ := Lib.hid hz
    by_cases hz2 : 2000 < R.length
    · have HV : Hid (spliceV d at_ del ins = ([], 3)) := Lib.hid (by unfold spliceV; rw [if_neg hno, if_pos]; right; have := HRL.out; omega)
      clear hno
      go_wp2_with fail
      (with_reducible refine (refCheck_any I ci ins _ hI3 (by omega) HL.out).mono ?_)
      rw [HZ.out]
      rintro e w' ⟨rfl, rfl⟩
      go_wp2_with fail
      go_ret2
      exact ⟨_, by rw [HV.out]; rfl, by rw [HV.out]; exact World.ownsRow_nil _ _ _ _, Grows.of_below hb3⟩
    · have HV : Hid (spliceV d at_ del ins = (R, 0)) := Lib.hid (by unfold spliceV; rw [if_neg hno, if_neg (fun h => h.elim (fun h => h hz) (fun h => by have := HRL.out; omega)), ← HRd.out]; rfl)
      clear hno
      go_wp2_with fail
      (with_reducible refine (refCheck_any I ci ins _ hI3 (by omega) HL.out).mono ?_)
      rw [HZ.out]
      rintro e w' ⟨rfl, rfl⟩
      go_wp2_with fail
      go_ret2
      exact ⟨_, by rw [HV.out]; rfl, by rw [HV.out]; exact hR3, Grows.of_below hb3⟩
  · have hz' : (lcheckV ins != 0) = true := by simpa using hz
    have HV : Hid (spliceV d at_ del ins = ([], 3)) := Lib.hid (by unfold spliceV; rw [if_neg hno, if_pos]; left; exact hz)
    clear hno
    go_wp2_with fail
    (with_reducible refine (refCheck_any I ci ins _ hI3 (by omega) HL.out).mono ?_)
    rintro e w' ⟨rfl, rfl⟩
    go_wp2_with fail
    go_ret2
    exact ⟨_, by rw [HV.out]; rfl, by rw [HV.out]; exact World.ownsRow_nil _ _ _ _, Grows.of_below hb3⟩

set_option maxRecDepth 3000 in
set_option maxHeartbeats 2000000 in
theorem refSplice_nil (I : Option Addr) (ci : Nat) (ins : List (List UInt8)) (w : World) (hI : Rd w 1 I ins.length (lv ins)) (hnI : I = none → ins.length = 0 ∧ ci = 0) (hi : ins.length ≤ 1000000) (hl : ∀ s ∈ ins, s.length ≤ 9223372036854775807) (h2 : (lcheckV ins == 2) = false) :
    Calls Try.prog 78 #[.slice none 0 0, .int .i64 0, .int .i64 0, .slice I ins.length ci] w (SplPost (spliceV [] 0 0 ins) w) := by
  obtain ⟨i0, hi, hz0, hz1, hz2⟩ := info_parts infoStr
  have HL := Lib.hid hl
  clear hl
  have hmade : (w.alloc (.cells #[] 9)).ownsRow w.heap.size 9 1 (.slice (some ⟨w.heap.size, 0, none⟩) 0 0) 0 [] := World.ownsRow_made w #[] 0 (Nat.le_refl _) (by decide) rfl
  go_enter Try.func78, Try.ntmps78
  go_wp2_with fail
  (with_reducible refine (refCheck_any I ci ins _ hI (by omega) HL.out).mono ?_)
  rintro e w' ⟨rfl, rfl⟩
  go_wp2_with (at_builtin; refine wpList_append_rd _ rfl (.tmp 36) (.tmp 39) 22 rfl w.heap.size 9 i0 (.string ⟨#[]⟩) 16 Try.underlying22 hi hz0 hz1 hz2 rfl _ _ _ rfl hmade none 0 0 [] rfl (fun _ => ⟨rfl, rfl⟩) Rd.nil_ (by simp) (by unfold maxLen; omega) (by omega) (by simp) ?_; intro v1 w1 hown1 hgrow1; simp only [Nat.zero_add, List.nil_append] at hown1; have hb1 := own_first hgrow1; clear hgrow1)
  have hown1' : w1.drew.ownsRow w.heap.size 9 1 v1 0 [] := hown1.drew
  have hg1 : Grows w w1.drew := (Grows.of_below hb1).drew
  have hb1' := hg1.below
  have hs1 := hb1'.size
  have hI1 := hI.grows hg1
  have HI0 := Lib.hid hI
  have hw1 : IntKind.i64.wrap 0 = 0 := rfl
  have HN := Lib.hid hnI
  clear hnI hmade hI hb1 hown1 hg1
  go_region_law (first
    | (refine step_append_rd _ rfl (.tmp 41) (.tmp 42) 22 rfl w.heap.size 9 i0 (.string ⟨#[]⟩) 16 Try.underlying22 hi hz0 hz1 hz2 rfl v1 0 _ (by simp [Act.eval, Act.put]) hown1' I ins.length ci (lv ins) (by simp [Act.eval, Act.put]) HN.out hI1 (lv_one _) (by unfold maxLen; omega) (by omega) hs1 ?_; intro v2 w2 hown2 hgrow2; have hb2 := own_next hb1' hown1' hgrow2; have hs2 := hb2.size; clear hgrow2)
    | (refine step_append_rd _ rfl (.tmp 43) (.tmp 48) 22 rfl w.heap.size 9 i0 (.string ⟨#[]⟩) 16 Try.underlying22 hi hz0 hz1 hz2 rfl _ (0 + ins.length) _ (by simp [Act.eval, Act.put]) hown2 none 0 0 [] (by simp [Act.eval, Act.put]) (fun _ => ⟨rfl, rfl⟩) Rd.nil_ (by simp) (by unfold maxLen; omega) (by omega) hs2 ?_; intro v3 w3 hown3 hgrow3; have hb3 := own_next hb2 hown2 hgrow3; have hs3 := hb3.size; clear hgrow3))
  have hR3 : w3.ownsRow w.heap.size 9 1 v3 ins.length (lv ins) := by simpa using hown3
  have hI3 := HI0.out.grows (Grows.of_below hb3)
  obtain ⟨R, hRd⟩ : ∃ R, R = ins := ⟨_, rfl⟩
  have HRd := Lib.hid hRd
  have hRl : R.length = ins.length := by rw [hRd]
  have HRL := Lib.hid hRl
  rw [← hRd] at hR3
  clear hRl
  have hR9 : R.length ≤ 9000000 := by have := HRL.out; omega
  obtain ⟨A3, c3, rfl, hc3, hc36, -⟩ := own_rd hR3
  clear hRd hown3
  have hno : ¬ ((0 : Int) < 0 ∨ (0 : Int) < 0 ∨ ((([] : List (List UInt8)).length : Nat) : Int) < 0 ∨ ((([] : List (List UInt8)).length : Nat) : Int) - 0 < 0 ∨ lcheckV ins = 2) := by
    have := h2; simp at this; simp; omega
  by_cases hz : lcheckV ins = 0
  · have HZ := Lib.hid hz
    by_cases hz2 : 2000 < R.length
    · have HV : Hid (spliceV [] 0 0 ins = ([], 3)) := Lib.hid (by unfold spliceV; rw [if_neg hno, if_pos]; right; have := HRL.out; simp; omega)
      clear hno
      go_wp2_with fail
      (with_reducible refine (refCheck_any I ci ins _ hI3 (by omega) HL.out).mono ?_)
      rw [HZ.out]
      rintro e w' ⟨rfl, rfl⟩
      go_wp2_with fail
      go_ret2
      exact ⟨_, by rw [HV.out]; rfl, by rw [HV.out]; exact World.ownsRow_nil _ _ _ _, Grows.of_below hb3⟩
    · have HV : Hid (spliceV [] 0 0 ins = (R, 0)) := Lib.hid (by unfold spliceV; rw [if_neg hno, if_neg (fun h => h.elim (fun h => h hz) (fun h => by have := HRL.out; simp at h; omega)), HRd.out]; simp)
      clear hno
      go_wp2_with fail
      (with_reducible refine (refCheck_any I ci ins _ hI3 (by omega) HL.out).mono ?_)
      rw [HZ.out]
      rintro e w' ⟨rfl, rfl⟩
      go_wp2_with fail
      go_ret2
      exact ⟨_, by rw [HV.out]; rfl, by rw [HV.out]; exact hR3, Grows.of_below hb3⟩
  · have hz' : (lcheckV ins != 0) = true := by simpa using hz
    have HV : Hid (spliceV [] 0 0 ins = ([], 3)) := Lib.hid (by unfold spliceV; rw [if_neg hno, if_pos]; left; exact hz)
    clear hno
    go_wp2_with fail
    (with_reducible refine (refCheck_any I ci ins _ hI3 (by omega) HL.out).mono ?_)
    rintro e w' ⟨rfl, rfl⟩
    go_wp2_with fail
    go_ret2
    exact ⟨_, by rw [HV.out]; rfl, by rw [HV.out]; exact World.ownsRow_nil _ _ _ _, Grows.of_below hb3⟩

set_option maxRecDepth 3000 in
set_option maxHeartbeats 2000000 in
theorem refSplice_bad (A I : Option Addr) (cap ci : Nat) (d ins : List (List UInt8)) (at_ del : Int) (w : World) (hI : Rd w 1 I ins.length (lv ins)) (hd : d.length ≤ 1000000) (hi : ins.length ≤ 1000000) (hl : ∀ s ∈ ins, s.length ≤ 9223372036854775807) (ha : I64 at_) (hde : I64 del) (h : at_ < 0 ∨ del < 0 ∨ (d.length : Int) < at_ ∨ (d.length : Int) - at_ < del ∨ lcheckV ins = 2) :
    Calls Try.prog 78 #[.slice A d.length cap, .int .i64 at_, .int .i64 del, .slice I ins.length ci] w (SplPost (spliceV d at_ del ins) w) := by
  have HV : Hid (spliceV d at_ del ins = ([], 2)) := Lib.hid (by unfold spliceV; rw [if_pos h])
  have HL := Lib.hid hl
  have HH := Lib.hid h
  unfold I64 at ha hde
  clear hl h
  by_cases h1 : at_ < 0
  · have d1 : decide (at_ < 0) = true := by simpa using h1
    go_enter Try.func78, Try.ntmps78
    go_wp2_with fail
    go_ret2
    exact ⟨_, by rw [HV.out]; rfl, by rw [HV.out]; exact World.ownsRow_nil _ _ _ _, Grows.refl _⟩
  · have d1 : decide (at_ < 0) = false := by simpa using h1
    by_cases h2 : del < 0
    · have d2 : decide (del < 0) = true := by simpa using h2
      go_enter Try.func78, Try.ntmps78
      go_wp2_with fail
      go_ret2
      exact ⟨_, by rw [HV.out]; rfl, by rw [HV.out]; exact World.ownsRow_nil _ _ _ _, Grows.refl _⟩
    · have d2 : decide (del < 0) = false := by simpa using h2
      by_cases h3 : (d.length : Int) < at_
      · have d3 : decide ((d.length : Int) < at_) = true := by simpa using h3
        go_enter Try.func78, Try.ntmps78
        go_wp2_with fail
        go_ret2
        exact ⟨_, by rw [HV.out]; rfl, by rw [HV.out]; exact World.ownsRow_nil _ _ _ _, Grows.refl _⟩
      · have d3 : decide ((d.length : Int) < at_) = false := by simpa using h3
        by_cases h4 : (d.length : Int) - at_ < del
        · have d4 : decide ((d.length : Int) - at_ < del) = true := by simpa using h4
          go_enter Try.func78, Try.ntmps78
          go_wp2_with fail
          go_ret2
          exact ⟨_, by rw [HV.out]; rfl, by rw [HV.out]; exact World.ownsRow_nil _ _ _ _, Grows.refl _⟩
        · have d4 : decide ((d.length : Int) - at_ < del) = false := by simpa using h4
          have hc : lcheckV ins = 2 := by have := HH.out; omega
          have HC := Lib.hid hc
          clear hc
          go_enter Try.func78, Try.ntmps78
          go_wp2_with fail
          (with_reducible refine (refCheck_any I ci ins _ hI (by omega) HL.out).mono ?_)
          rw [HC.out]
          rintro e w' ⟨rfl, rfl⟩
          go_wp2_with fail
          go_ret2
          exact ⟨_, by rw [HV.out]; rfl, by rw [HV.out]; exact World.ownsRow_nil _ _ _ _, Grows.refl _⟩

set_option maxRecDepth 3000 in
theorem refSplice_any (A I : Option Addr) (cap ci : Nat) (d ins : List (List UInt8)) (at_ del : Int) (w : World) (hA : Rd w 1 A d.length (lv d)) (hnA : A = none → d.length = 0 ∧ cap = 0) (hcap : d.length ≤ cap) (hc63 : cap ≤ 9223372036854775807) (hI : Rd w 1 I ins.length (lv ins)) (hnI : I = none → ins.length = 0 ∧ ci = 0) (hd : d.length ≤ 1000000) (hi : ins.length ≤ 1000000) (hl : ∀ s ∈ ins, s.length ≤ 9223372036854775807) (ha : I64 at_) (hde : I64 del) :
    Calls Try.prog 78 #[.slice A d.length cap, .int .i64 at_, .int .i64 del, .slice I ins.length ci] w (SplPost (spliceV d at_ del ins) w) := by
  by_cases h : at_ < 0 ∨ del < 0 ∨ (d.length : Int) < at_ ∨ (d.length : Int) - at_ < del ∨ lcheckV ins = 2
  · exact refSplice_bad A I cap ci d ins at_ del w hI hd hi hl ha hde h
  · obtain ⟨a, rfl⟩ : ∃ a : Nat, at_ = a := ⟨at_.toNat, by omega⟩
    obtain ⟨e, rfl⟩ : ∃ e : Nat, del = e := ⟨del.toNat, by omega⟩
    have h2 : (lcheckV ins == 2) = false := by simp; omega
    cases A with
    | some x => exact refSplice_some x I cap ci d ins a e w hA hcap hc63 hI hnI hd hi hl (by omega) h2
    | none =>
      obtain ⟨h0, rfl⟩ := hnA rfl
      obtain rfl := List.eq_nil_of_length_eq_zero h0
      obtain rfl : a = 0 := by simp at h; omega
      obtain rfl : e = 0 := by simp at h; omega
      exact refSplice_nil I ci ins w hI hnI hi hl h2
end Go.Proofs.Ythanghgfakibnaa

/-
  Pieces: the contracts at pointers, as the laws' walks spell them.
-/
namespace Go.Proofs.Ythanghgfakibnaa
open Go.RowKit

section
variable (T : Tbl) (w : World) (hT : T.ok w)
include hT
set_option maxRecDepth 3000 in
theorem len_ptr : Calls Try.prog 37 #[.pointer (some ⟨T.g, 0, none⟩)] w fun e w' => e = .returned (.int .i64 T.L.length) ∧ w = w' := len_any T w hT
set_option maxRecDepth 3000 in
theorem line_ptr (i : Int) (hi : I64 i) : Calls Try.prog 38 #[.pointer (some ⟨T.g, 0, none⟩), .int .i64 i] w fun e w' => e = .returned (.tuple #[.string (tx ((rangeV T.L i i).headD [])), .bool (decide ((rangeV T.L i i).length = 1))]) ∧ Grows w w' := line_any T i w hT hi
/-- A new table's answer, spelt. -/
def NewPost (d : List (List UInt8)) (w : World) (e : Ending) (w' : World) : Prop := ∃ T : Tbl, e = .returned (.pointer (some ⟨T.g, 0, none⟩)) ∧ T.ok w' ∧ T.L = d ∧ Grows w w' ∧ (∀ b, T.uses b → w.heap.size ≤ b) ∧ T.ps.length = min 1 d.length
/-- What Splice answers, spelt as one. -/
def SplOut (T : Tbl) (x : List (List UInt8) × Int) (w : World) (e : Ending) (w' : World) : Prop :=
  ∃ v, e = .returned (.tuple #[v, .int .i64 x.2]) ∧ (x.2 ≠ 0 → v = .pointer none) ∧ (x.2 = 0 → ∃ U : Tbl, v = .pointer (some ⟨U.g, 0, none⟩) ∧ U.ok w' ∧ U.L = x.1 ∧ (∀ b, U.uses b → T.uses b ∨ w.heap.size ≤ b) ∧ U.ps.length ≤ T.ps.length + 2) ∧ Grows w w'
set_option maxRecDepth 3000 in
theorem splice_ptr (at_ del : Int) (I : Option Addr) (n ci : Nat) (ins : List (List UInt8)) (hn : n = ins.length) (hI : Rd w 1 I ins.length (lv ins)) (hnI : I = none → ins.length = 0 ∧ ci = 0) (hi : ins.length ≤ 1000000) (hl : ∀ s ∈ ins, s.length ≤ 9223372036854775807) (ha : I64 at_) (hd : I64 del) :
    Calls Try.prog 42 #[.pointer (some ⟨T.g, 0, none⟩), .int .i64 at_, .int .i64 del, .slice I n ci] w (SplOut T (spliceV T.L at_ del ins) w) := by
  refine (splice_n T at_ del I n ci ins w hT hn hI hnI hi hl ha hd).mono fun e w' h => ?_
  rcases h with ⟨h1, h2, h3⟩ | ⟨h1, U, h2, h3, h4, h5⟩
  · exact ⟨_, h2, fun _ => rfl, fun h => absurd h h1, h3⟩
  · exact ⟨U.val, by rw [h1]; exact h2, fun h => absurd h1 h, fun _ => ⟨U, rfl, h3.ok, h3.lines, h4, h5⟩, h3.grows⟩
end
set_option maxRecDepth 3000 in
theorem new_ptr (A : Option Addr) (n cap : Nat) (d : List (List UInt8)) (w : World) (hn : n = d.length) (hA : Rd w 1 A d.length (lv d)) (hd : d.length ≤ 1000000) (hnil : A = none → d.length = 0 ∧ cap = 0) (hl : ∀ s ∈ d, s.length ≤ 9223372036854775807) (hok : lcheckV d = 0) :
    Calls Try.prog 46 #[.slice A n cap] w (NewPost d w) :=
  (new_n A n cap d w hn hA hd hnil hl hok).mono fun _ _ ⟨C, he, h, hu, hp⟩ => ⟨C, he, h.ok, h.lines, h.grows, hu, hp⟩
set_option maxRecDepth 3000 in
/-- A table's pieces and its lines. -/
theorem Tbl.ok.none_iff {T : Tbl} {w : World} (h : T.ok w) : T.ps.length = 0 ↔ T.L.length = 0 := by
  constructor
  · intro h0
    unfold Tbl.L
    rw [List.eq_nil_of_length_eq_zero h0]; rfl
  · intro h0
    have := h.count
    rw [show partsL T.ps = T.L from rfl] at this
    omega
end Go.Proofs.Ythanghgfakibnaa
