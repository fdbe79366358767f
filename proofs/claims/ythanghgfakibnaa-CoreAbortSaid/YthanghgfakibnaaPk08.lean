/-
  Several texts of the proof: RefCheck, Step, PiecesRef.
-/
import Derived.Test.YthanghgfakibnaaPk03
import Derived.Test.YthanghgfakibnaaPk01
import Derived.Deep.RegionLaw
import Derived.Test.YthanghgfakibnaaPk05
/-
  inkhornref01.Whole and Check, walked: for every seat whose code calls them.
-/
namespace Go.Proofs.Ythanghgfakibnaa
open Go.RowKit

/-! ### the document's -/
set_option maxRecDepth 3000 in
set_option maxHeartbeats 400000 in
theorem whole_any (s : List UInt8) (w : World) (hs : s.length ≤ 9223372036854775807) : Calls Try.prog 76 #[.string (tx s)] w fun e w' => e = .returned (.bool (!hasEnd s)) ∧ w = w' := by
  have hz : (tx s).size ≤ 9223372036854775807 := by simpa using hs
  go_enter Try.func76, Try.ntmps76
  go_wp2_with fail
  go_loopg [3] s.length (fun q i wr => ∃ k : Nat, q + k = s.length ∧ i = .int .i64 k ∧ wr = w ∧ 10 ∉ s.take k)
  case atStart => exact ⟨0, by omega, rfl, rfl, by simp⟩
  case round =>
    obtain ⟨k, hq, rfl, rfl, hno⟩ := hrel
    have HQ := Lib.hid hq
    have HN := Lib.hid hno
    have hkl : k ≤ s.length := by omega
    clear hq hno
    by_cases h1 : k < s.length
    · have h1' : k < (tx s).size := by simpa using h1
      by_cases h2 : s[k] = 10
      · have h2' : (((tx s)[k].toNat : Int) == 10) = true := by rw [show (tx s)[k] = 10 from (tx_get s k h1').trans h2]; rfl
        have HV : Hid ((!hasEnd s) = false) := Lib.hid (by simp [hasEnd]; rw [← h2]; exact List.getElem_mem _)
        clear h2
        go_wp2_with fail
        go_ret
        exact ⟨by rw [HV.out]; rfl, rfl⟩
      · have h2' : (((tx s)[k].toNat : Int) == 10) = false := by
          rw [tx_get, beq_eq_false_iff_ne]
          intro e
          exact h2 (UInt8.toNat.inj (by have : (10 : UInt8).toNat = 10 := rfl; omega))
        have HN2 : Hid (10 ∉ s.take (k + 1)) := Lib.hid (by
          rw [List.take_add_one, List.getElem?_eq_getElem h1]
          simp only [Option.toList, List.mem_append, List.mem_singleton, not_or]
          exact ⟨HN.out, Ne.symm h2⟩)
        clear h2
        go_wp2_with fail
        go_roundg (gk - 1)
        case measure => have := HQ.out; omega
        case rel => exact ⟨k + 1, by have := HQ.out; omega, by go_num, rfl, HN2.out⟩
    · have HV : Hid ((!hasEnd s) = true) := Lib.hid (by
        have := HN.out
        rw [List.take_of_length_le (by omega)] at this
        simpa [hasEnd] using this)
      go_wp2_with fail
      go_ret
      exact ⟨by rw [HV.out]; rfl, rfl⟩
set_option maxRecDepth 3000 in
theorem any_take_succ (d : List (List UInt8)) (p : List UInt8 → Bool) (k : Nat) (h : k < d.length) : (d.take (k + 1)).any p = ((d.take k).any p || p d[k]) := by
  rw [List.take_add_one, List.getElem?_eq_getElem h, List.any_append]; simp
set_option maxRecDepth 3000 in
set_option maxHeartbeats 1000000 in
theorem refCheck_any (A : Option Addr) (cap : Nat) (d : List (List UInt8)) (w : World) (hA : Rd w 1 A d.length (lv d)) (hd : d.length ≤ 9223372036854775807) (hl : ∀ s ∈ d, s.length ≤ 9223372036854775807) :
    Calls Try.prog 55 #[.slice A d.length cap] w fun e w' => e = .returned (.int .i64 (lcheckV d)) ∧ w = w' := by
  have HL := Lib.hid hl
  clear hl
  obtain ⟨lo, hlo⟩ : ∃ lo : Bool, lo = decide (2000 < d.length) := ⟨_, rfl⟩
  have HLO := Lib.hid hlo
  go_enter Try.func55, Try.ntmps55
  go_wp2_with fail
  go_loopg [3, 4] d.length (fun q v i wr => ∃ k : Nat, q + k = d.length ∧ i = .int .i64 k ∧ v = .bool (lo || (d.take k).any tooLong) ∧ wr = w ∧ (d.take k).any hasEnd = false)
  case atStart => exact ⟨0, by omega, rfl, by rw [HLO.out]; simp; omega, rfl, rfl⟩
  case round =>
    obtain ⟨k, hq, rfl, rfl, rfl, hno⟩ := hrel
    have HQ := Lib.hid hq
    have HN := Lib.hid hno
    have hkl : k ≤ d.length := by omega
    clear hq hno
    by_cases h1 : k < d.length
    · obtain ⟨b, o, rfl, hb, ec⟩ := hA.line k h1
      have hlk := HL.out d[k] (List.getElem_mem h1)
      have hzk : (tx d[k]).size ≤ 9223372036854775807 := by simpa using hlk
      cases h2 : hasEnd d[k] with
      | true =>
        have HV : Hid (lcheckV d = 2) := Lib.hid (by
          have : d.any hasEnd = true := List.any_eq_true.2 ⟨_, List.getElem_mem h1, h2⟩
          simp [lcheckV, this])
        have H2 := Lib.hid h2
        clear h2
        go_wp2_with fail
        (with_reducible refine (whole_any d[k] _ hlk).mono ?_)
        rw [H2.out]
        rintro e w' ⟨rfl, rfl⟩
        go_wp2_with fail
        go_ret
        exact ⟨by rw [HV.out]; rfl, rfl⟩
      | false =>
        have HN2 : Hid ((d.take (k + 1)).any hasEnd = false) := Lib.hid (by rw [any_take_succ d hasEnd k h1, HN.out, h2]; rfl)
        have HT := Lib.hid (any_take_succ d tooLong k h1)
        have H2 := Lib.hid h2
        clear h2
        generalize hgen : (lo || (d.take k).any tooLong) = bo
        have HG := Lib.hid hgen
        clear hgen
        have H3 : Hid (tooLong d[k] = decide (1000 < d[k].length)) := Lib.hid rfl
        cases bo
        all_goals
          go_wp2_with fail
          (with_reducible refine (whole_any d[k] _ hlk).mono ?_)
          rw [H2.out]
          rintro e w' ⟨rfl, rfl⟩
          go_wp2_with fail
          go_roundg (gk - 1)
          case measure => have := HQ.out; omega
          case rel => exact ⟨k + 1, by have := HQ.out; omega, by go_num, by rw [HT.out, ← Bool.or_assoc, HG.out, H3.out]; first | rfl | (simp; omega), rfl, HN2.out⟩
    · have hk : d.take k = d := List.take_of_length_le (by omega)
      have HN2 : Hid (d.any hasEnd = false) := Lib.hid (by have := HN.out; rwa [hk] at this)
      rw [hk]
      clear hk
      cases hb : (lo || d.any tooLong) with
      | true =>
        have HV : Hid (lcheckV d = 3) := Lib.hid (by rw [lcheckV, HN2.out, ← HLO.out, hb]; rfl)
        clear hb
        go_wp2_with fail
        go_ret
        exact ⟨by rw [HV.out]; rfl, rfl⟩
      | false =>
        have HV : Hid (lcheckV d = 0) := Lib.hid (by rw [lcheckV, HN2.out, ← HLO.out, hb]; rfl)
        clear hb
        go_wp2_with fail
        go_ret
        exact ⟨by rw [HV.out]; rfl, rfl⟩
end Go.Proofs.Ythanghgfakibnaa

/-
  append(x, y...), x nil or the call's own, y any slice that reads as a list (nil too): as one step of a region that draws its order.
-/
namespace Go.Proofs.Ythanghgfakibnaa
open Go.RowKit

set_option maxRecDepth 3000 in
theorem step_append_rd {P : Program} (w : World) {ops : Array Oper} {o : Oper} {a : Act} {K : Act → World → Prop} {Q : Exit → Act → World → Prop} {E : Prop} (hgd : o.guard = none) (s x : Operand) (t : TypeId)
    (ho : o.op = .call { callee := .builtin .append, args := #[s, x], argTypes := #[t, t] })
    (base : Nat) (e : TypeId) (i : TypeInfo) (z : Value) (bytes : Nat) (ht : P.underlying t = some (.slice e)) (hi : P.info? e = some i) (hz : i.zero = some z)
    (hsize : i.size = 1) (hby : i.bytes = bytes) (hzs : z.cells.size = 1) (v : Value) (n : Nat) (xs : List Value) (hs : a.eval s = v) (hown : w.ownsRow base e 1 v n xs)
    (ao : Option Addr) (m c : Nat) (news : List Value) (hx : a.eval x = .slice ao m c) (hnil : ao = none → m = 0 ∧ c = 0) (hR : Rd w 1 ao m news) (h1 : ∀ u ∈ news, u.oneCell' = true)
    (h63 : n + m ≤ maxLen) (hbytes : (n + m) * bytes ≤ 140737488355328) (hbase : base ≤ w.heap.size)
    (h : ∀ v' w', w'.ownsRow base e 1 v' (n + m) (xs ++ news) → w.grownBy w' v.ownBlock → K (a.put o.dst v') w') :
    if Region.wanted o (yielded ops a.tmps) = true then Oper.wp P o a w K Q else E := by
  have hw : Region.wanted o (yielded ops a.tmps) = true := by simp [Region.wanted, hgd]
  rw [if_pos hw]
  cases ao with
  | none =>
    obtain ⟨rfl, rfl⟩ := hnil rfl
    have hn : news = [] := List.eq_nil_of_length_eq_zero (by simpa using hR.1)
    subst hn
    have hrun := run_append_owned_none (P := P) (w := w) base t o.type e i 1 ht hi v n xs hown
    unfold Oper.wp
    simp [execOp, ho, resolve, invoke, builtin, hs, hx, hrun, Result.andThen]
    exact h v w (by simpa using hown) ⟨rfl, rfl, rfl, Nat.le_refl _, fun _ _ _ => rfl⟩
  | some ad =>
    refine wp_append_own w s x t ho base e i z 1 bytes ht hi hz hsize hby hzs (by decide) v n xs hs hown ad m c news hx hR.1 (fun j u hu => ?_) h1 h63 hbytes hbase (fun v' w' a1 a2 _ => h v' w' a1 a2)
    have hm : 0 < m := by
      have := hR.1
      rcases Nat.eq_zero_or_pos m with e0 | e0
      · subst e0
        rw [List.eq_nil_of_length_eq_zero (l := news) (by simpa using this)] at hu
        cases hu
      · exact e0
    obtain ⟨b, f, eq, _, hc⟩ := hR.2 hm
    injection eq with eq
    subst eq
    have hadd : (⟨b, f, none⟩ : Addr).add j = ⟨b, f + j, none⟩ := by unfold Addr.add; split <;> simp_all
    rw [hadd]
    exact hc j u hu
end Go.Proofs.Ythanghgfakibnaa

/-
  Pieces: the walks of the document's Lines and Splice.
-/
namespace Go.Proofs.Ythanghgfakibnaa
open Go.RowKit

/-- The lines from one number on, up to another one. -/
def rangeV (d : List (List UInt8)) (f t : Int) : List (List UInt8) := (d.take t.toNat).drop (max f 1 - 1).toNat
set_option maxRecDepth 3000 in
theorem rangeV_yes (d : List (List UInt8)) (f t : Int) (k : Nat) (h : k < d.length) (h1 : f ≤ k + 1) (h2 : (k : Int) + 1 ≤ t) : rangeV (d.take (k + 1)) f t = rangeV (d.take k) f t ++ [d[k]] := by
  unfold rangeV
  rw [List.take_take, List.take_take, Nat.min_eq_right (by omega), Nat.min_eq_right (by omega), List.take_add_one, List.getElem?_eq_getElem h, List.drop_append_of_le_length (by simp; omega)]
  rfl
set_option maxRecDepth 3000 in
theorem rangeV_no (d : List (List UInt8)) (f t : Int) (k : Nat) (h : k < d.length) (h1 : ¬ (f ≤ k + 1 ∧ (k : Int) + 1 ≤ t)) : rangeV (d.take (k + 1)) f t = rangeV (d.take k) f t := by
  unfold rangeV
  rw [List.take_take, List.take_take]
  by_cases h2 : (k : Int) + 1 ≤ t
  · have h3 : ¬ f ≤ k + 1 := fun h3 => h1 ⟨h3, h2⟩
    rw [List.drop_eq_nil_of_le (by simp; omega), List.drop_eq_nil_of_le (by simp; omega)]
  · rw [Nat.min_eq_left (by omega), Nat.min_eq_left (by omega)]
set_option maxRecDepth 3000 in
theorem rangeV_le (d : List (List UInt8)) (f t : Int) : (rangeV d f t).length ≤ d.length := by simp [rangeV]; omega
set_option maxRecDepth 3000 in
theorem lv_snoc' (d : List (List UInt8)) (a : List UInt8) : lv d ++ [.string (tx a)] = lv (d ++ [a]) := by simp [lv]

/-- What Splice answers: nothing and an error, or new memory. -/
def SplPost (x : List (List UInt8) × Int) (w : World) (e : Ending) (w' : World) : Prop := ∃ v, e = .returned (.tuple #[v, .int .i64 x.2]) ∧ w'.ownsRow w.heap.size 9 1 v x.1.length (lv x.1) ∧ Grows w w'

end Go.Proofs.Ythanghgfakibnaa
