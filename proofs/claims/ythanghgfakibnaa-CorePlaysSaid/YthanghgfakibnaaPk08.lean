/-
  Several texts of the proof: RefCheck, Step, PiecesRef, AppendTo, PiecesTab, Builder, Joins, PiecesNew.
-/
import Derived.Test.YthanghgfakibnaaPk03
import Derived.Test.YthanghgfakibnaaPk01
import Derived.Deep.RegionLaw
import Derived.Test.YthanghgfakibnaaPk05
import Derived.Test.YthanghgfakibnaaPk07
import Derived.Test.YthanghgfakibnaaPk00
import Derived.Test.YthanghgfakibnaaPk02
import Derived.Lib.Builder
import Derived.Lib.AppendStr
import Derived.Lib.UnsafeStr
import Derived.Deep.RegionHeld3
/-
  inkhornref01.Whole and Check, walked: for every seat whose code calls them.
-/
namespace Go.Proofs.Ythanghgfakibnaa
open Go.RowKit

/-! ### the document's -/
set_option maxRecDepth 3000 in
set_option maxHeartbeats 400000 in
theorem whole_any (s : List UInt8) (w : World) (hs : s.length ≤ 9223372036854775807) : Calls Try.prog 76 #[.string (tx s)] w fun e w' => e = .returned (.bool (!hasEnd s)) ∧ w = w' := by
  have hz : (tx s).size ≤ 9223372036854775807 := by simpa using hs
  go_enter Try.func76, Try.ntmps76
  go_wp2_with fail
  go_loopg [3] s.length (fun q i wr => ∃ k : Nat, q + k = s.length ∧ i = .int .i64 k ∧ wr = w ∧ 10 ∉ s.take k)
  case atStart => exact ⟨0, by omega, rfl, rfl, by simp⟩
  case round =>
    obtain ⟨k, hq, rfl, rfl, hno⟩ := hrel
    have HQ := Lib.hid hq
    have HN := Lib.hid hno
    have hkl : k ≤ s.length := by omega
    clear hq hno
    by_cases h1 : k < s.length
    · have h1' : k < (tx s).size := by simpa using h1
      by_cases h2 : s[k] = 10
      · have h2' : (((tx s)[k].toNat : Int) == 10) = true := by rw [show (tx s)[k] = 10 from (tx_get s k h1').trans h2]; rfl
        have HV : Hid ((!hasEnd s) = false) := Lib.hid (by simp [hasEnd]; rw [← h2]; exact List.getElem_mem _)
        clear h2
        go_wp2_with fail
        go_ret
        exact ⟨by rw [HV.out]; rfl, rfl⟩
      · have h2' : (((tx s)[k].toNat : Int) == 10) = false := by
          rw [tx_get, beq_eq_false_iff_ne]
          intro e
          exact h2 (UInt8.toNat.inj (by have : (10 : UInt8).toNat = 10 := rfl; omega))
        have HN2 : Hid (10 ∉ s.take (k + 1)) := Lib.hid (by
          rw [List.take_add_one, List.getElem?_eq_getElem h1]
          simp only [Option.toList, List.mem_append, List.mem_singleton, not_or]
          exact ⟨HN.out, Ne.symm h2⟩)
        clear h2
        go_wp2_with fail
        go_roundg (gk - 1)
        case measure => have := HQ.out; omega
        case rel => exact ⟨k + 1, by have := HQ.out; omega, by go_num, rfl, HN2.out⟩
    · have HV : Hid ((!hasEnd s) = true) := Lib.hid (by
        have := HN.out
        rw [List.take_of_length_le (by omega)] at this
        simpa [hasEnd] using this)
      go_wp2_with fail
      go_ret
      exact ⟨by rw [HV.out]; rfl, rfl⟩
set_option maxRecDepth 3000 in
theorem any_take_succ (d : List (List UInt8)) (p : List UInt8 → Bool) (k : Nat) (h : k < d.length) : (d.take (k + 1)).any p = ((d.take k).any p || p d[k]) := by
  rw [List.take_add_one, List.getElem?_eq_getElem h, List.any_append]; simp
set_option maxRecDepth 3000 in
set_option maxHeartbeats 1000000 in
theorem refCheck_any (A : Option Addr) (cap : Nat) (d : List (List UInt8)) (w : World) (hA : Rd w 1 A d.length (lv d)) (hd : d.length ≤ 9223372036854775807) (hl : ∀ s ∈ d, s.length ≤ 9223372036854775807) :
    Calls Try.prog 55 #[.slice A d.length cap] w fun e w' => e = .returned (.int .i64 (lcheckV d)) ∧ w = w' := by
  have HL := Lib.hid hl
  clear hl
  obtain ⟨lo, hlo⟩ : ∃ lo : Bool, lo = decide (2000 < d.length) := ⟨_, rfl⟩
  have HLO := Lib.hid hlo
  go_enter Try.func55, Try.ntmps55
  go_wp2_with fail
  go_loopg [3, 4] d.length (fun q v i wr => ∃ k : Nat, q + k = d.length ∧ i = .int .i64 k ∧ v = .bool (lo || (d.take k).any tooLong) ∧ wr = w ∧ (d.take k).any hasEnd = false)
  case atStart => exact ⟨0, by omega, rfl, by rw [HLO.out]; simp; omega, rfl, rfl⟩
  case round =>
    obtain ⟨k, hq, rfl, rfl, rfl, hno⟩ := hrel
    have HQ := Lib.hid hq
    have HN := Lib.hid hno
    have hkl : k ≤ d.length := by omega
    clear hq hno
    by_cases h1 : k < d.length
    · obtain ⟨b, o, rfl, hb, ec⟩ := hA.line k h1
      have hlk := HL.out d[k] (List.getElem_mem h1)
      have hzk : (tx d[k]).size ≤ 9223372036854775807 := by simpa using hlk
      cases h2 : hasEnd d[k] with
      | true =>
        have HV : Hid (lcheckV d = 2) := Lib.hid (by
          have : d.any hasEnd = true := List.any_eq_true.2 ⟨_, List.getElem_mem h1, h2⟩
          simp [lcheckV, this])
        have H2 := Lib.hid h2
        clear h2
        go_wp2_with fail
        (with_reducible refine (whole_any d[k] _ hlk).mono ?_)
        rw [H2.out]
        rintro e w' ⟨rfl, rfl⟩
        go_wp2_with fail
        go_ret
        exact ⟨by rw [HV.out]; rfl, rfl⟩
      | false =>
        have HN2 : Hid ((d.take (k + 1)).any hasEnd = false) := Lib.hid (by rw [any_take_succ d hasEnd k h1, HN.out, h2]; rfl)
        have HT := Lib.hid (any_take_succ d tooLong k h1)
        have H2 := Lib.hid h2
        clear h2
        generalize hgen : (lo || (d.take k).any tooLong) = bo
        have HG := Lib.hid hgen
        clear hgen
        have H3 : Hid (tooLong d[k] = decide (1000 < d[k].length)) := Lib.hid rfl
        cases bo
        all_goals
          go_wp2_with fail
          (with_reducible refine (whole_any d[k] _ hlk).mono ?_)
          rw [H2.out]
          rintro e w' ⟨rfl, rfl⟩
          go_wp2_with fail
          go_roundg (gk - 1)
          case measure => have := HQ.out; omega
          case rel => exact ⟨k + 1, by have := HQ.out; omega, by go_num, by rw [HT.out, ← Bool.or_assoc, HG.out, H3.out]; first | rfl | (simp; omega), rfl, HN2.out⟩
    · have hk : d.take k = d := List.take_of_length_le (by omega)
      have HN2 : Hid (d.any hasEnd = false) := Lib.hid (by have := HN.out; rwa [hk] at this)
      rw [hk]
      clear hk
      cases hb : (lo || d.any tooLong) with
      | true =>
        have HV : Hid (lcheckV d = 3) := Lib.hid (by rw [lcheckV, HN2.out, ← HLO.out, hb]; rfl)
        clear hb
        go_wp2_with fail
        go_ret
        exact ⟨by rw [HV.out]; rfl, rfl⟩
      | false =>
        have HV : Hid (lcheckV d = 0) := Lib.hid (by rw [lcheckV, HN2.out, ← HLO.out, hb]; rfl)
        clear hb
        go_wp2_with fail
        go_ret
        exact ⟨by rw [HV.out]; rfl, rfl⟩
end Go.Proofs.Ythanghgfakibnaa

/-
  append(x, y...), x nil or the call's own, y any slice that reads as a list (nil too): as one step of a region that draws its order.
-/
namespace Go.Proofs.Ythanghgfakibnaa
open Go.RowKit

set_option maxRecDepth 3000 in
theorem step_append_rd {P : Program} (w : World) {ops : Array Oper} {o : Oper} {a : Act} {K : Act → World → Prop} {Q : Exit → Act → World → Prop} {E : Prop} (hgd : o.guard = none) (s x : Operand) (t : TypeId)
    (ho : o.op = .call { callee := .builtin .append, args := #[s, x], argTypes := #[t, t] })
    (base : Nat) (e : TypeId) (i : TypeInfo) (z : Value) (bytes : Nat) (ht : P.underlying t = some (.slice e)) (hi : P.info? e = some i) (hz : i.zero = some z)
    (hsize : i.size = 1) (hby : i.bytes = bytes) (hzs : z.cells.size = 1) (v : Value) (n : Nat) (xs : List Value) (hs : a.eval s = v) (hown : w.ownsRow base e 1 v n xs)
    (ao : Option Addr) (m c : Nat) (news : List Value) (hx : a.eval x = .slice ao m c) (hnil : ao = none → m = 0 ∧ c = 0) (hR : Rd w 1 ao m news) (h1 : ∀ u ∈ news, u.oneCell' = true)
    (h63 : n + m ≤ maxLen) (hbytes : (n + m) * bytes ≤ 140737488355328) (hbase : base ≤ w.heap.size)
    (h : ∀ v' w', w'.ownsRow base e 1 v' (n + m) (xs ++ news) → w.grownBy w' v.ownBlock → K (a.put o.dst v') w') :
    if Region.wanted o (yielded ops a.tmps) = true then Oper.wp P o a w K Q else E := by
  have hw : Region.wanted o (yielded ops a.tmps) = true := by simp [Region.wanted, hgd]
  rw [if_pos hw]
  cases ao with
  | none =>
    obtain ⟨rfl, rfl⟩ := hnil rfl
    have hn : news = [] := List.eq_nil_of_length_eq_zero (by simpa using hR.1)
    subst hn
    have hrun := run_append_owned_none (P := P) (w := w) base t o.type e i 1 ht hi v n xs hown
    unfold Oper.wp
    simp [execOp, ho, resolve, invoke, builtin, hs, hx, hrun, Result.andThen]
    exact h v w (by simpa using hown) ⟨rfl, rfl, rfl, Nat.le_refl _, fun _ _ _ => rfl⟩
  | some ad =>
    refine wp_append_own w s x t ho base e i z 1 bytes ht hi hz hsize hby hzs (by decide) v n xs hs hown ad m c news hx hR.1 (fun j u hu => ?_) h1 h63 hbytes hbase (fun v' w' a1 a2 _ => h v' w' a1 a2)
    have hm : 0 < m := by
      have := hR.1
      rcases Nat.eq_zero_or_pos m with e0 | e0
      · subst e0
        rw [List.eq_nil_of_length_eq_zero (l := news) (by simpa using this)] at hu
        cases hu
      · exact e0
    obtain ⟨b, f, eq, _, hc⟩ := hR.2 hm
    injection eq with eq
    subst eq
    have hadd : (⟨b, f, none⟩ : Addr).add j = ⟨b, f + j, none⟩ := by unfold Addr.add; split <;> simp_all
    rw [hadd]
    exact hc j u hu
end Go.Proofs.Ythanghgfakibnaa

/-
  Pieces: the walks of the document's Lines and Splice.
-/
namespace Go.Proofs.Ythanghgfakibnaa
open Go.RowKit

/-- The lines from one number on, up to another one. -/
def rangeV (d : List (List UInt8)) (f t : Int) : List (List UInt8) := (d.take t.toNat).drop (max f 1 - 1).toNat
set_option maxRecDepth 3000 in
theorem rangeV_yes (d : List (List UInt8)) (f t : Int) (k : Nat) (h : k < d.length) (h1 : f ≤ k + 1) (h2 : (k : Int) + 1 ≤ t) : rangeV (d.take (k + 1)) f t = rangeV (d.take k) f t ++ [d[k]] := by
  unfold rangeV
  rw [List.take_take, List.take_take, Nat.min_eq_right (by omega), Nat.min_eq_right (by omega), List.take_add_one, List.getElem?_eq_getElem h, List.drop_append_of_le_length (by simp; omega)]
  rfl
set_option maxRecDepth 3000 in
theorem rangeV_no (d : List (List UInt8)) (f t : Int) (k : Nat) (h : k < d.length) (h1 : ¬ (f ≤ k + 1 ∧ (k : Int) + 1 ≤ t)) : rangeV (d.take (k + 1)) f t = rangeV (d.take k) f t := by
  unfold rangeV
  rw [List.take_take, List.take_take]
  by_cases h2 : (k : Int) + 1 ≤ t
  · have h3 : ¬ f ≤ k + 1 := fun h3 => h1 ⟨h3, h2⟩
    rw [List.drop_eq_nil_of_le (by simp; omega), List.drop_eq_nil_of_le (by simp; omega)]
  · rw [Nat.min_eq_left (by omega), Nat.min_eq_left (by omega)]
set_option maxRecDepth 3000 in
theorem rangeV_le (d : List (List UInt8)) (f t : Int) : (rangeV d f t).length ≤ d.length := by simp [rangeV]; omega
set_option maxRecDepth 3000 in
theorem lv_snoc' (d : List (List UInt8)) (a : List UInt8) : lv d ++ [.string (tx a)] = lv (d ++ [a]) := by simp [lv]

/-- What Splice answers: nothing and an error, or new memory. -/
def SplPost (x : List (List UInt8) × Int) (w : World) (e : Ending) (w' : World) : Prop := ∃ v, e = .returned (.tuple #[v, .int .i64 x.2]) ∧ w'.ownsRow w.heap.size 9 1 v x.1.length (lv x.1) ∧ Grows w w'

end Go.Proofs.Ythanghgfakibnaa

/-
  append(x, y...), x of one type of slices, y of another one: as for one type.
-/
namespace Go.Proofs.Ythanghgfakibnaa
open Go.RowKit

set_option maxRecDepth 3000 in
theorem append_types {P : Program} (w : World) (t u ty e e' : TypeId) (args : Array Value) (ht : P.underlying t = some (.slice e)) (hu : P.underlying u = some (.slice e')) :
    (Builtin.append_ #[t, u] ty args).run P w = (Builtin.append_ #[t, t] ty args).run P w := by
  unfold Builtin.append_
  cases h0 : args[0]? with
  | none => simp [h0]
  | some s =>
    cases h1 : args[1]? with
    | none => simp [h0, h1]
    | some x =>
      simp only [h0, h1, List.getElem?_toArray, List.getElem?_cons_zero, List.getElem?_cons_succ, Sem.run_bind, run_underlying ht, run_underlying hu, Result.andThen_ok]
      cases s <;> simp [run_underlying ht, run_underlying hu]

set_option maxRecDepth 3000 in
theorem wpList_append_to {P : Program} (w : World) {ops : Array Oper} {rest : List Oper} {o : Oper} {a : Act} {Q : Exit → Act → World → Prop} (hgd : o.guard = none) (s x : Operand) (t u : TypeId)
    (ho : o.op = .call { callee := .builtin .append, args := #[s, x], argTypes := #[t, u] })
    (base : Nat) (e e' : TypeId) (i : TypeInfo) (z : Value) (bytes : Nat) (ht : P.underlying t = some (.slice e)) (hu : P.underlying u = some (.slice e')) (hi : P.info? e = some i) (hz : i.zero = some z)
    (hsize : i.size = 1) (hby : i.bytes = bytes) (hzs : z.cells.size = 1) (v : Value) (n : Nat) (xs : List Value) (hs : a.eval s = v) (hown : w.ownsRow base e 1 v n xs)
    (ao : Option Addr) (m c : Nat) (news : List Value) (hx : a.eval x = .slice ao m c) (hnil : ao = none → m = 0 ∧ c = 0) (hR : Rd w 1 ao m news) (h1 : ∀ u ∈ news, u.oneCell' = true)
    (h63 : n + m ≤ maxLen) (hbytes : (n + m) * bytes ≤ 140737488355328) (hbase : base ≤ w.heap.size)
    (h : ∀ v' w', w'.ownsRow base e 1 v' (n + m) (xs ++ news) → w.grownBy w' v.ownBlock → wpList P ops Q rest (a.put o.dst v') w') : wpList P ops Q (o :: rest) a w := by
  refine wpList_plain hgd fun _ hK => ?_
  cases ao with
  | none =>
    obtain ⟨rfl, rfl⟩ := hnil rfl
    have hn : news = [] := List.eq_nil_of_length_eq_zero (by simpa using hR.1)
    subst hn
    have hrun := run_append_owned_none (P := P) (w := w) base t o.type e i 1 ht hi v n xs hown
    rw [← append_types w t u o.type e e' _ ht hu] at hrun
    unfold Oper.wp
    simp [execOp, ho, resolve, invoke, builtin, hs, hx, hrun, Result.andThen]
    exact hK _ _ (h v w (by simpa using hown) ⟨rfl, rfl, rfl, Nat.le_refl _, fun _ _ _ => rfl⟩)
  | some ad =>
    have hc : ∀ j u, news[j]? = some u → w.cell? (ad.add j) = some u := fun j u hu => by
      have hm : 0 < m := by
        have := hR.1
        rcases Nat.eq_zero_or_pos m with e0 | e0
        · subst e0
          rw [List.eq_nil_of_length_eq_zero (l := news) (by simpa using this)] at hu
          cases hu
        · exact e0
      obtain ⟨b, f, eq, _, hc⟩ := hR.2 hm
      injection eq with eq
      subst eq
      have hadd : (⟨b, f, none⟩ : Addr).add j = ⟨b, f + j, none⟩ := by unfold Addr.add; split <;> simp_all
      rw [hadd]
      exact hc j u hu
    obtain ⟨v', w', hr, h2, h3, _⟩ := run_append_own (P := P) w base t o.type e i z 1 bytes ht hi hz hsize hby hzs (by decide) v n xs hown ad m c news hR.1 hc h1 h63 hbytes hbase
    rw [← append_types w t u o.type e e' _ ht hu] at hr
    unfold Oper.wp execOp
    simp only [ho, resolve, invoke, builtin, Sem.run_bind, Sem.run_pure, Result.andThen_ok, List.map_toArray, List.map_cons, List.map_nil, hs, hx, hr]
    exact hK _ _ (h v' w' h2 h3)
end Go.Proofs.Ythanghgfakibnaa

/-
  Pieces: the walks of Len, Lines, Line, Pieces, New, Text.
-/
namespace Go.Proofs.Ythanghgfakibnaa
open Go.RowKit

set_option maxRecDepth 3000 in
theorem len_any (T : Tbl) (w : World) (hT : T.ok w) : Calls Try.prog 37 #[T.val] w fun e w' => e = .returned (.int .i64 T.L.length) ∧ w = w' := by
  obtain ⟨g, P, cap, ps⟩ := T
  have e1 := Blk.cell hT.cells (by simp) 1
  simp only [List.size_toArray, List.length_cons, List.length_nil, Nat.zero_add, Nat.reduceAdd, Nat.reduceLT, getElem?_pos, List.getElem_toArray, List.getElem_cons_succ, List.getElem_cons_zero] at e1
  clear hT
  unfold Tbl.val Tbl.L
  simp only []
  go_enter Try.func37, Try.ntmps37
  go_wp2_with fail
  go_ret
  exact ⟨rfl, rfl⟩
set_option maxRecDepth 3000 in
theorem len_nil (w : World) : Calls Try.prog 37 #[.pointer none] w fun e w' => e = .returned (.int .i64 0) ∧ w = w' := by
  go_enter Try.func37, Try.ntmps37
  go_wp2_with fail
  go_ret
  exact ⟨rfl, rfl⟩
set_option maxRecDepth 3000 in
set_option maxHeartbeats 2000000 in
theorem lines_any (T : Tbl) (f t : Int) (w : World) (hT : T.ok w) (hf : I64 f) (ht : I64 t) :
    Calls Try.prog 39 #[T.val, .int .i64 f, .int .i64 t] w (NewLines (rangeV T.L f t) w) := by
  obtain ⟨i0, hi, hz0, hz1, hz2⟩ := info_parts infoStr
  unfold I64 at hf ht
  have hsm : T.L.length ≤ 1000000 := hT.small
  by_cases hft : min t T.L.length < max f 1
  · have HV : Hid (rangeV T.L f t = []) := Lib.hid (by unfold rangeV; exact List.drop_eq_nil_of_le (by simp; omega))
    go_enter Try.func39, Try.ntmps39
    go_wp2_with fail
    (with_reducible refine (len_any T _ hT).mono ?_)
    rintro e w' ⟨rfl, rfl⟩
    go_wp2_with fail
    go_ret
    exact ⟨_, rfl, by rw [HV.out]; exact World.ownsRow_nil _ _ _ _, Grows.refl _⟩
  · obtain ⟨F, hF⟩ : ∃ F : Nat, max f 1 = (F : Int) + 1 := ⟨(max f 1 - 1).toNat, by omega⟩
    obtain ⟨E, hE⟩ : ∃ E : Nat, min t T.L.length = (E : Int) := ⟨(min t T.L.length).toNat, by omega⟩
    have hFE : F + 1 ≤ E := by omega
    have hEn : E ≤ T.L.length := by omega
    have hV : rangeV T.L f t = partsL (partsV T.ps 0 F E) := by
      rw [partsV_lines]
      unfold rangeV Tbl.L
      have e1 : (max f 1 - 1).toNat = F - 0 := by omega
      have e2 : (partsL T.ps).take t.toNat = (partsL T.ps).take (E - 0) := by
        have hE : min t ((partsL T.ps).length : Int) = (E : Int) := hE
        by_cases h : t ≤ (partsL T.ps).length
        · congr 1; omega
        · rw [List.take_of_length_le (by omega), List.take_of_length_le (by omega)]
      rw [e1, e2]
    have hq : ∀ q ∈ partsV T.ps 0 F E, q.good w ∧ 0 < q.d.length := by
      intro q hq
      obtain ⟨p, hp, a, b, hab, hb, rfl⟩ := partsV_some _ _ _ _ q hq
      obtain ⟨h1, h2⟩ := Part.cutAt_good (hT.each p hp).1 a b hab hb
      exact ⟨h1, by omega⟩
    have hql : (partsV T.ps 0 F E).length ≤ 1000000 := by
      have := partsV_le T.ps 0 F E
      have := hT.count
      have : (partsL T.ps).length ≤ 1000000 := hT.small
      omega
    have hqs : (partsL (partsV T.ps 0 F E)).length ≤ 1000000 := by
      rw [← hV]; have := rangeV_le T.L f t; omega
    have HV := Lib.hid hV
    have HQ := Lib.hid hq
    clear hV hq
    go_enter Try.func39, Try.ntmps39
    go_wp2_with fail
    (with_reducible refine (len_any T _ hT).mono ?_)
    rintro e w' ⟨rfl, rfl⟩
    go_wp2_with fail
    (with_reducible refine (parts_any T F E _ hT (by omega) (by omega)).mono ?_)
    rintro e w1 ⟨v1, rfl, hown1, m1, rfl⟩
    obtain ⟨A1, c1, rfl, hc1, hc16, hA1, hn1, hs1⟩ := own_parts hown1
    have hgw := Grows.of w m1
    clear hown1 hn1 hs1
    generalize more w m1 = W at hA1 hgw ⊢
    generalize partsV T.ps 0 F E = qs at *
    go_wp2_with fail
    go_loopg [7, 9, 25] qs.length (fun q v _ i wr => ∃ k : Nat, q + k = qs.length ∧ i = .int .i64 k ∧ wr.ownsRow W.heap.size 9 1 v (partsL (qs.take k)).length (lv (partsL (qs.take k))) ∧ Below W.heap.size W wr)
    case atStart => exact ⟨0, by omega, rfl, World.ownsRow_nil _ _ _ _, Below.refl _ _⟩
    case round =>
      obtain ⟨k, hq, rfl, hrow, hB⟩ := hrel
      have HK := Lib.hid hq
      have hkl : k ≤ qs.length := by omega
      clear hq
      have hsum := partsL_le qs k
      have hbs := hB.size
      by_cases h1 : k < qs.length
      · obtain ⟨b, o, rfl, hb, ec⟩ := (hA1.grows (Grows.of_below hB)).part k h1
        have hgd := ((HQ.out qs[k] (List.getElem_mem h1)).1.grows hgw).grows (Grows.of_below hB)
        obtain ⟨⟨hr, hn⟩, hc, hc6⟩ := hgd
        have HN := Lib.hid hn
        have hs2 := partsL_le qs (k + 1)
        rw [partsL_take qs k h1, List.length_append] at hs2
        have HT := Lib.hid (partsL_take qs k h1)
        clear hn
        go_wp2_with (at_builtin; refine wpList_append_to _ rfl (.tmp 29) (.tmp 30) 22 114 rfl W.heap.size 9 9 i0 (.string ⟨#[]⟩) 16 Try.underlying22 Try.underlying114 hi hz0 hz1 hz2 rfl _ _ _ rfl hrow qs[k].A _ qs[k].cap (lv qs[k].d) rfl HN.out hr (lv_one _) (by unfold maxLen; omega) (by omega) hbs ?_; intro v1 w1 hown1 hgrow1; have hb1 := own_next hB hrow hgrow1; clear hgrow1)
        go_roundg (gk - 1)
        case measure => have := HK.out; omega
        case rel => exact ⟨k + 1, by have := HK.out; omega, by go_num, by rw [HT.out, List.length_append, ← lv_append]; exact hown1, hb1⟩
      · have hk : qs.take k = qs := List.take_of_length_le (by omega)
        rw [hk] at hrow
        clear hk
        go_wp2_with fail
        go_ret
        exact ⟨_, rfl, by rw [HV.out]; exact own_le hrow hgw.below.size, hgw.trans (Grows.of_below hB)⟩
set_option maxRecDepth 3000 in
theorem lines_nil (f t : Int) (w : World) (hf : I64 f) (ht : I64 t) :
    Calls Try.prog 39 #[.pointer none, .int .i64 f, .int .i64 t] w fun e w' => e = .returned (.slice none 0 0) ∧ w = w' := by
  unfold I64 at hf ht
  have hft : min t 0 < max f 1 := by omega
  go_enter Try.func39, Try.ntmps39
  go_wp2_with fail
  (with_reducible refine (len_nil _).mono ?_)
  rintro e w' ⟨rfl, rfl⟩
  go_wp2_with fail
  go_ret
  exact ⟨rfl, rfl⟩
end Go.Proofs.Ythanghgfakibnaa

/-
  strings.Builder: copyCheck and WriteString at a builder that the call itself has made (the library's words: IsBuilder, BuilderAt).
-/
namespace Go.Proofs.Ythanghgfakibnaa
open Go.RowKit

set_option maxRecDepth 3000 in
theorem infoByte : (Try.prog.info? 5).map (fun i => (i.zero, i.size, i.bytes)) = some (some (.int .u8 0), 1, 1) := by kernel_rfl

end Go.Proofs.Ythanghgfakibnaa

/-
  lines.Join, walked: for every seat whose code calls it.
-/
namespace Go.Proofs.Ythanghgfakibnaa
open Go.RowKit

set_option maxRecDepth 3000 in
theorem join_take (d : List (List UInt8)) (k : Nat) (hk : k < d.length) : joinL (d.take (k + 1)) = joinL (d.take k) ++ (d[k] ++ [10]) := by
  rw [List.take_add_one, List.getElem?_eq_getElem hk, joinL_append]; simp [joinL]
set_option maxRecDepth 3000 in
theorem join_take_le (d : List (List UInt8)) (k : Nat) : (joinL (d.take k)).length ≤ (joinL d).length := by
  conv => rhs; rw [← List.take_append_drop k d, joinL_append]
  simp

end Go.Proofs.Ythanghgfakibnaa

/-
  Pieces: the walks of New, Line, Text, Compact, Splice, and of the law's own all.
-/
namespace Go.Proofs.Ythanghgfakibnaa
open Go.RowKit

/-- A table of lines, laid anew but for some pieces. -/
structure TabOf (w : World) (d : List (List UInt8)) (T : Tbl) (w' : World) : Prop where
  ok : T.ok w'
  lines : T.L = d
  grows : Grows w w'
/-- Its blocks are new. -/
def TabNew (d : List (List UInt8)) (w : World) (e : Ending) (w' : World) : Prop := ∃ T : Tbl, e = .returned T.val ∧ TabOf w d T w' ∧ (∀ b, T.uses b → w.heap.size ≤ b) ∧ T.ps.length = min 1 d.length

set_option maxRecDepth 3000 in
theorem pown_row {w : World} {base : Nat} {v : Value} {d : List (List UInt8)} (h : w.ownsRow base 9 1 v d.length (lv d)) : ∃ A cap, v = .slice A d.length cap ∧ d.length ≤ cap ∧ cap ≤ 9223372036854775807 ∧ Rd w 1 A d.length (lv d) ∧ (A = none → d.length = 0 ∧ cap = 0) ∧ ∀ a, A = some a → a.spot = none ∧ base ≤ a.block := by
  obtain ⟨A, cap, e, h1, h2, h3, h4⟩ := own_rd' h
  refine ⟨A, cap, e, h1, h2, h3, h4, fun a ha => ?_⟩
  subst ha
  rcases h.2 with ⟨e2, _⟩ | ⟨g, c, cur, e2, hb, _⟩
  · rw [e] at e2; injection e2 with e3; cases e3
  · rw [e] at e2; injection e2 with e3; injection e3 with e3; rw [e3]; exact ⟨rfl, hb⟩
set_option maxRecDepth 3000 in
/-- of one piece that was laid in a block of its own. -/
theorem of_one (A : Option Addr) (cap n g m c : Nat) (d : List (List UInt8)) (w : World) (hn : n = d.length) (hg : g = w.heap.size) (hm : m = 1) (hp : (Part.mk A cap d).good w) (hl : d.length ≤ 1000000) (ty : TypeId) :
    Calls Try.prog 68 #[.slice (some ⟨g, 0, none⟩) m c] (w.alloc (.cells #[.slice A n cap] ty)) (OfPost [⟨A, cap, d⟩] (w.alloc (.cells #[.slice A n cap] ty))) := by
  subst hn hg hm
  have hgr : Grows w (w.alloc (.cells #[.slice A d.length cap] ty)) := (Grows.refl _).alloc _
  refine of_any (some ⟨w.heap.size, 0, none⟩) c [⟨A, cap, d⟩] _ (rd_new _ _ _ 1 _ rfl rfl) (fun p hp' => ?_) (by simpa [partsL] using hl) (by simp)
  obtain rfl : p = ⟨A, cap, d⟩ := by simpa using hp'
  exact hp.grows hgr
set_option maxRecDepth 3000 in
theorem OfPost.one {A : Option Addr} {cap : Nat} {d : List (List UInt8)} {w X : World} {e : Ending} {w' : World} (h : OfPost [⟨A, cap, d⟩] w e w') (hX : Grows X w) (hA : ∀ a, A = some a → X.heap.size ≤ a.block) : TabNew d X e w' := by
  obtain ⟨T, rfl, hok, hps, hg, hP, hgr⟩ := h
  refine ⟨T, rfl, ⟨hok, by unfold Tbl.L; rw [hps, fullV_lines]; simp [partsL], hX.trans hgr⟩, fun b hb => ?_, ?_⟩
  · have hs := hX.below.size
    rcases OfPost.uses hps hg hP b hb with h | ⟨p, hp, _, a, ha, rfl⟩
    · omega
    · obtain rfl : p = ⟨A, cap, d⟩ := by simpa using hp
      exact hA a ha
  · rw [hps]
    by_cases h : 0 < d.length
    · simp [fullV, h]; omega
    · simp [fullV, h]; omega

set_option maxRecDepth 3000 in
set_option maxHeartbeats 2000000 in
theorem pnew_any (A : Option Addr) (cap : Nat) (d : List (List UInt8)) (w : World) (hA : Rd w 1 A d.length (lv d)) (hd : d.length ≤ 1000000) (hnil : A = none → d.length = 0 ∧ cap = 0) (hl : ∀ s ∈ d, s.length ≤ 9223372036854775807) (hok : lcheckV d = 0) :
    Calls Try.prog 46 #[.slice A d.length cap] w (TabNew d w) := by
  have HL := Lib.hid hl
  have HN := Lib.hid hnil
  have HO := Lib.hid hok
  clear hl hnil hok
  go_enter Try.func46, Try.ntmps46
  go_wp2_with fail
  (with_reducible refine (lcheck_any A cap d _ hA (by omega) HL.out).mono ?_)
  rw [HO.out]
  rintro e w' ⟨rfl, rfl⟩
  go_wp2_with fail
  (with_reducible refine (clone_any A cap d _ hA (by omega) HN.out).mono ?_)
  rintro e w1 ⟨v, rfl, hown, m1, rfl⟩
  obtain ⟨B, cb, rfl, hcb, hcb6, hB, hBn, hBs⟩ := pown_row hown
  have HBN := Lib.hid hBn
  have HBS := Lib.hid hBs
  clear hown hBn hBs
  go_wp2_with fail
  (with_reducible refine (of_one B cb _ _ _ _ d _ rfl ?_ ?_ ?_ hd _).mono ?_)
  · simp [go_sem]
  · rfl
  · exact ⟨⟨hB, HBN.out⟩, hcb, hcb6⟩
  intro e w2 h
  obtain ⟨T, rfl, hT⟩ := h.one (X := w) (((Grows.refl _).more _).alloc _) (fun a ha => (HBS.out a ha).2)
  go_wp2_with fail
  go_ret
  exact ⟨T, rfl, hT⟩
set_option maxRecDepth 3000 in
set_option maxHeartbeats 2000000 in
theorem new_no (A : Option Addr) (cap : Nat) (d : List (List UInt8)) (w : World) (hA : Rd w 1 A d.length (lv d)) (hd : d.length ≤ 1000000) (hl : ∀ s ∈ d, s.length ≤ 9223372036854775807) (hok : lcheckV d ≠ 0) :
    Calls Try.prog 46 #[.slice A d.length cap] w fun e w' => e = .returned (.pointer none) ∧ w = w' := by
  have HL := Lib.hid hl
  have hok' : (lcheckV d != 0) = true := by simpa using hok
  clear hl
  go_enter Try.func46, Try.ntmps46
  go_wp2_with fail
  (with_reducible refine (lcheck_any A cap d _ hA (by omega) HL.out).mono ?_)
  rintro e w' ⟨rfl, rfl⟩
  go_wp2_with fail
  go_ret
  exact ⟨rfl, rfl⟩
set_option maxRecDepth 3000 in
theorem i64_small {n : Nat} (h : n ≤ 1000000) : I64 (n : Int) := by unfold I64; omega
set_option maxRecDepth 3000 in
set_option maxHeartbeats 2000000 in
theorem line_any (T : Tbl) (i : Int) (w : World) (hT : T.ok w) (hi : I64 i) :
    Calls Try.prog 38 #[T.val, .int .i64 i] w fun e w' => e = .returned (.tuple #[.string (tx ((rangeV T.L i i).headD [])), .bool (decide ((rangeV T.L i i).length = 1))]) ∧ Grows w w' := by
  go_enter Try.func38, Try.ntmps38
  go_wp2_with fail
  (with_reducible refine (lines_any T i i _ hT hi hi).mono ?_)
  rintro e w1 ⟨v, rfl, hown, m1, rfl⟩
  obtain ⟨B, cb, rfl, hcb, hcb6, hB, hBn, hBs⟩ := pown_row hown
  generalize hR : rangeV T.L i i = R at *
  have HR := Lib.hid hR
  clear hR hown hBn hBs
  have hR1 : R.length ≤ 1 := by
    rw [← HR.out]; unfold rangeV; simp; omega
  match R, hR1 with
  | [], _ =>
    go_wp2_with fail
    go_ret2
    exact ⟨by rw [HR.out]; rfl, Grows.of _ _⟩
  | [x], _ =>
    obtain ⟨b, o, rfl, hb, ec⟩ := hB.line 0 (by simp)
    simp only [List.getElem_cons_zero, Nat.add_zero, List.length_singleton] at ec hcb ⊢
    go_wp2_with fail
    go_ret2
    exact ⟨by rw [HR.out]; rfl, Grows.of _ _⟩
set_option maxRecDepth 3000 in
theorem line_nil (i : Int) (w : World) (hi : I64 i) :
    Calls Try.prog 38 #[.pointer none, .int .i64 i] w fun e w' => e = .returned (.tuple #[.string ⟨#[]⟩, .bool false]) ∧ Grows w w' := by
  go_enter Try.func38, Try.ntmps38
  go_wp2_with fail
  (with_reducible refine (lines_nil i i _ hi hi).mono ?_)
  rintro e w1 ⟨rfl, rfl⟩
  go_wp2_with fail
  go_ret2
  exact ⟨rfl, Grows.refl _⟩
set_option maxRecDepth 3000 in
theorem rangeV_all (d : List (List UInt8)) (n : Nat) (h : d.length ≤ n) : rangeV d 1 n = d := by
  unfold rangeV; rw [Int.toNat_natCast, List.take_of_length_le h]; simp
set_option maxRecDepth 3000 in
theorem lines_ptr (T : Tbl) (f t : Int) (w : World) (hT : T.ok w) (hf : I64 f) (ht : I64 t) :
    Calls Try.prog 39 #[.pointer (some ⟨T.g, 0, none⟩), .int .i64 f, .int .i64 t] w (NewLines (rangeV T.L f t) w) := lines_any T f t w hT hf ht
end Go.Proofs.Ythanghgfakibnaa
