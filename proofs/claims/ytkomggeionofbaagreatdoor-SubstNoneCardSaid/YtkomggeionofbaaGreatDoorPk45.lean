/-
  Several texts of the proof: Step, Builder, TplParse.
-/
import Derived.Test.YtkomggeionofbaaGreatDoorPk00
import Derived.Laws.AppendOwnNone
import Derived.Deep.RegionLaw
import Derived.Test.YtkomggeionofbaaGreatDoorPk06
import Derived.Lib.Builder
import Derived.Lib.AppendStr
import Derived.Lib.UnsafeStr
import Derived.Test.YtkomggeionofbaaGreatDoorPk44
import Derived.Deep.DrawnRows
import Derived.Laws.IdiomStrings
set_option linter.unusedSimpArgs false
set_option linter.unusedVariables false
/-
  append(x, y...), x nil or the call's own, y any slice that reads as a list (nil too): as one step of a region that draws its order.
-/
namespace Go.Proofs.YtkomggeionofbaaGreatDoor
open Go.RowKit

set_option maxRecDepth 3000 in
theorem step_append_rd {P : Program} (w : World) {ops : Array Oper} {o : Oper} {a : Act} {K : Act → World → Prop} {Q : Exit → Act → World → Prop} {E : Prop} (hgd : o.guard = none) (s x : Operand) (t : TypeId)
    (ho : o.op = .call { callee := .builtin .append, args := #[s, x], argTypes := #[t, t] })
    (base : Nat) (e : TypeId) (i : TypeInfo) (z : Value) (bytes : Nat) (ht : P.underlying t = some (.slice e)) (hi : P.info? e = some i) (hz : i.zero = some z)
    (hsize : i.size = 1) (hby : i.bytes = bytes) (hzs : z.cells.size = 1) (v : Value) (n : Nat) (xs : List Value) (hs : a.eval s = v) (hown : w.ownsRow base e 1 v n xs)
    (ao : Option Addr) (m c : Nat) (news : List Value) (hx : a.eval x = .slice ao m c) (hnil : ao = none → m = 0 ∧ c = 0) (hR : Rd w 1 ao m news) (h1 : ∀ u ∈ news, u.oneCell' = true)
    (h63 : n + m ≤ maxLen) (hbytes : (n + m) * bytes ≤ 140737488355328) (hbase : base ≤ w.heap.size)
    (h : ∀ v' w', w'.ownsRow base e 1 v' (n + m) (xs ++ news) → w.grownBy w' v.ownBlock → K (a.put o.dst v') w') :
    if Region.wanted o (yielded ops a.tmps) = true then Oper.wp P o a w K Q else E := by
  have hw : Region.wanted o (yielded ops a.tmps) = true := by simp [Region.wanted, hgd]
  rw [if_pos hw]
  cases ao with
  | none =>
    obtain ⟨rfl, rfl⟩ := hnil rfl
    have hn : news = [] := List.eq_nil_of_length_eq_zero (by simpa using hR.1)
    subst hn
    have hrun := run_append_owned_none (P := P) (w := w) base t o.type e i 1 ht hi v n xs hown
    unfold Oper.wp
    simp [execOp, ho, resolve, invoke, builtin, hs, hx, hrun, Result.andThen]
    exact h v w (by simpa using hown) ⟨rfl, rfl, rfl, Nat.le_refl _, fun _ _ _ => rfl⟩
  | some ad =>
    refine wp_append_own w s x t ho base e i z 1 bytes ht hi hz hsize hby hzs (by decide) v n xs hs hown ad m c news hx hR.1 (fun j u hu => ?_) h1 h63 hbytes hbase (fun v' w' a1 a2 _ => h v' w' a1 a2)
    have hm : 0 < m := by
      have := hR.1
      rcases Nat.eq_zero_or_pos m with e0 | e0
      · subst e0
        rw [List.eq_nil_of_length_eq_zero (l := news) (by simpa using this)] at hu
        cases hu
      · exact e0
    obtain ⟨b, f, eq, _, hc⟩ := hR.2 hm
    injection eq with eq
    subst eq
    have hadd : (⟨b, f, none⟩ : Addr).add j = ⟨b, f + j, none⟩ := by unfold Addr.add; split <;> simp_all
    rw [hadd]
    exact hc j u hu
end Go.Proofs.YtkomggeionofbaaGreatDoor

/-
  strings.Builder: copyCheck and WriteString at a builder that the call itself has made (the library's words: IsBuilder, BuilderAt).
-/
namespace Go.Proofs.YtkomggeionofbaaGreatDoor
open Go.RowKit

set_option maxRecDepth 3000 in
theorem sizeBuilder : (Tryz.prog.info? 66).map (·.size) = some 2 := by kernel_rfl
set_option maxRecDepth 3000 in
theorem liesBuilder : liesAt Tryz.prog Tryz.prog.depth 66 (2 / Tryz.prog.cellsOf 66) 0 66 1 = true := by kernel_rfl
set_option maxRecDepth 3000 in
theorem infoByte : (Tryz.prog.info? 5).map (fun i => (i.zero, i.size, i.bytes)) = some (some (.int .u8 0), 1, 1) := by kernel_rfl

set_option maxRecDepth 3000 in
set_option maxHeartbeats 1000000 in
theorem copyCheck_used (b : Nat) (w : World) (h0 : w.cell? ⟨b, 0, none⟩ = some (.pointer (some ⟨b, 0, none⟩))) :
    Calls Tryz.prog 34 #[.pointer (some ⟨b, 0, none⟩)] w fun e w' => e = .returned (.tuple #[]) ∧ w' = w := by
  obtain ⟨j, hj, _⟩ := Option.map_eq_some_iff.1 sizeBuilder
  go_enter Tryz.func34, Tryz.ntmps34
  go_wp2
  rw [Lib.run_neq_ptr_same w _ Tryz.underlying63 hj]
  go_wp2
  go_end0
  exact ⟨rfl, rfl⟩

set_option maxHeartbeats 1000000 in
set_option maxRecDepth 100000 in
theorem copyCheck_fresh (b : Nat) (w : World) (h0 : w.cell? ⟨b, 0, none⟩ = some (.pointer none)) (hsh : w.shape? b = some (66, 2)) (hfz : w.frozen? ⟨b, 0, none⟩ = false) :
    Calls Tryz.prog 34 #[.pointer (some ⟨b, 0, none⟩)] w fun e w' => e = .returned (.tuple #[]) ∧ w' = w.setCell ⟨b, 0, none⟩ (.pointer (some ⟨b, 0, none⟩)) := by
  obtain ⟨j, hj, hjs⟩ := Option.map_eq_some_iff.1 sizeBuilder
  go_enter Tryz.func34, Tryz.ntmps34
  go_wp2
  rw [Lib.run_to_unsafe w ⟨b, 0, none⟩ Tryz.underlying63 Tryz.underlying134 hj (by rw [hjs]; decide) hsh (Nat.zero_lt_succ 1)]
  simp only [Result.andThen]
  rw [Oper.upon_value]
  go_wp2
  rw [run_callFunc_extern Tryz.func62 (by kernel_rfl) (by kernel_rfl) (by kernel_rfl) (e := Extern.AbiNoEscape.same) (by kernel_rfl)]
  rw [Lib.run_noEscape]
  simp only [Result.andThen]
  rw [Oper.upon_value]
  go_wp2
  rw [Lib.run_from_unsafe w ⟨b, 0, none⟩ Tryz.underlying134 Tryz.underlying63 hj hsh liesBuilder]
  simp only [Result.andThen]
  rw [Oper.upon_value]
  go_wp2
  go_end0
  exact ⟨rfl, rfl⟩

set_option maxRecDepth 3000 in
theorem copyCheck_any (B b : Nat) (bs : List Value) (w : World) (h : Lib.IsBuilder 66 5 B b bs w) :
    Calls Tryz.prog 34 #[.pointer (some ⟨b, 0, none⟩)] w fun e w' => e = .returned (.tuple #[]) ∧ Lib.BuilderAt 66 5 B b (.pointer (some ⟨b, 0, none⟩)) bs w' ∧ Below B w w' := by
  rcases h with h | h
  · refine (copyCheck_fresh b w h.cell0 h.shape h.frozen0).mono ?_
    rintro e w' ⟨rfl, rfl⟩
    exact ⟨rfl, h.used _, (Below.refl B w).setCell (p := ⟨b, 0, none⟩) h.1 _⟩
  · refine (copyCheck_used b w h.cell0).mono ?_
    rintro e w' ⟨rfl, rfl⟩
    exact ⟨rfl, h, Below.refl B _⟩

set_option maxRecDepth 3000 in
set_option maxHeartbeats 1000000 in
theorem writeString_any (B b : Nat) (bs : List Value) (s : ByteArray) (w : World) (h : Lib.IsBuilder 66 5 B b bs w) (hlen : bs.length + s.size ≤ 140737488355328) (hBw : B ≤ w.heap.size) :
    Calls Tryz.prog 16 #[.pointer (some ⟨b, 0, none⟩), .string s] w fun e w' => e = .returned (.tuple #[.int .i64 s.size, .nilIface]) ∧ Lib.BuilderAt 66 5 B b (.pointer (some ⟨b, 0, none⟩)) (bs ++ Lib.strCells s) w' ∧ Below B w w' := by
  obtain ⟨i0, hi, hz0, hz1, hz2⟩ := info_parts infoByte
  go_enter Tryz.func16, Tryz.ntmps16
  go_wp2_with fail
  refine (copyCheck_any B b bs _ h).mono ?_
  rintro e w1 ⟨rfl, h1, hb1⟩
  obtain ⟨hB, v, hbk, hown, hne⟩ := h1
  have c0 : w1.cell? ⟨b, 0, none⟩ = some (.pointer (some ⟨b, 0, none⟩)) := by rw [Lib.cell_of_heap hbk]; rfl
  have c1 : w1.cell? ⟨b, 1, none⟩ = some v := by rw [Lib.cell_of_heap hbk]; rfl
  go_wp2_with (at_builtin; refine Lib.wpList_append_own_string _ rfl _ _ 64 9 rfl B 5 i0 Tryz.underlying64 Tryz.underlying9 hi hz0 hz1 hz2 _ _ _ rfl hown s rfl ?c3 ?c4 ?c5 ?_)
  case c3 => unfold maxLen; omega
  case c4 => omega
  case c5 => have := hb1.size; omega
  intro v' w2 hown' hgrow _
  have hlt : b < w1.heap.size := (Array.getElem?_eq_some_iff.1 hbk).1
  have hb2 : w2.heap[b]? = some (.cells #[.pointer (some ⟨b, 0, none⟩), v] 66 (0, 0)) := by
    rw [hgrow.block b hlt (fun e => hne e.symm)]
    exact hbk
  have d0 : w2.cell? ⟨b, 0, none⟩ = some (.pointer (some ⟨b, 0, none⟩)) := by rw [Lib.cell_of_heap hb2]; rfl
  have d1 : w2.cell? ⟨b, 1, none⟩ = some v := by rw [Lib.cell_of_heap hb2]; rfl
  have f1 : w2.frozen? ⟨b, 1, none⟩ = false := Lib.frozen_of_heap hb2 1
  obtain ⟨ao, n', cap, rfl⟩ : ∃ ao n' cap, v' = .slice ao n' cap := by
    rcases hown'.2 with ⟨hv, _⟩ | ⟨g, cap, cur, hv, _⟩
    · exact ⟨_, _, _, hv⟩
    · exact ⟨_, _, _, hv⟩
  go_wp2
  go_ret2
  refine ⟨rfl, ?_, ?_⟩
  · exact Lib.BuilderAt.put hB hb2 (bs' := bs ++ Lib.strCells s) (by simpa [Lib.strCells_length] using hown') (by decide)
  · exact (hb1.grown hgrow (by have := hb1.size; omega) (fun k hk => (hown.lt k hk).1)).setCell (p := ⟨b, 1, none⟩) hB _
end Go.Proofs.YtkomggeionofbaaGreatDoor

/-
  Templates: behind and Parse, walked.
-/
namespace Go.Proofs.YtkomggeionofbaaGreatDoor
open Go.RowKit

attribute [local go_sem] tx_bt tx_from
/-- A piece, as a value. -/
def tokVal : Tok → Value
  | .text l => .iface 54 (.string (tx l))
  | .grp n => .iface 55 (.int .i64 n)
def tl (l : List Tok) : List Value := l.map tokVal
set_option maxRecDepth 3000 in
theorem tl_length (l : List Tok) : (tl l).length = l.length := by simp [tl]
set_option maxRecDepth 3000 in
theorem tl_snoc (l : List Tok) (t : Tok) : tl l ++ [tokVal t] = tl (l ++ [t]) := by simp [tl]
set_option maxRecDepth 3000 in
theorem infoPiece : (Tryz.prog.info? 57).map (fun i => (i.zero, i.size, i.bytes)) = some (some .nilIface, 1, 16) := by kernel_rfl
/-- The pieces of a text, with as much fuel as it wants. -/
def tokF (s : List UInt8) : Option (List Tok) := tokV (s.length + 1) s
set_option maxRecDepth 3000 in
theorem tokV_fuel (n : Nat) : ∀ (m : Nat) (s : List UInt8), s.length < n → s.length < m → tokV n s = tokV m s := by
  induction n with
  | zero => intro m s h; omega
  | succ n ih =>
    intro m s hn hm
    cases m with
    | zero => omega
    | succ m =>
      cases s with
      | nil => rfl
      | cons c s =>
        unfold tokV
        split
        · rename_i h0
          rw [ih m _ (by rw [List.length_drop]; simp at hn ⊢; omega) (by rw [List.length_drop]; simp at hm ⊢; omega)]
        · split
          · rw [ih m s (by simp at hn; omega) (by simp at hm; omega)]
          · cases s with
            | nil => rfl
            | cons d t => simp only []; rw [ih m t (by simp at hn; omega) (by simp at hm; omega)]
set_option maxRecDepth 3000 in
theorem tokF_text (s : List UInt8) (h0 : 0 < ampAt s) (hs : s ≠ []) : tokF s = (tokF (s.drop (ampAt s))).map fun l => .text (s.take (ampAt s)) :: l := by
  cases s with
  | nil => exact absurd rfl hs
  | cons c s =>
    have hl := ampAt_le (c :: s)
    unfold tokF
    conv => lhs; unfold tokV; rw [if_pos h0]
    rw [tokV_fuel _ (((c :: s).drop (ampAt (c :: s))).length + 1) _ (by rw [List.length_drop]; simp at hl ⊢; omega) (by omega)]
set_option maxRecDepth 3000 in
theorem tokF_amp (c : UInt8) (s : List UInt8) (h : c.toNat = 38) : tokF (c :: s) = (tokF s).map fun l => .grp 0 :: l := by
  have h0 : ¬0 < ampAt (c :: s) := by unfold ampAt; rw [if_pos (.inl h)]; omega
  unfold tokF
  conv => lhs; unfold tokV; rw [if_neg h0, if_pos h]
  rw [tokV_fuel _ (s.length + 1) _ (by simp) (by omega)]
set_option maxRecDepth 3000 in
theorem tokF_end (c : UInt8) (h : c.toNat = 92) : tokF [c] = none := by
  have h0 : ¬0 < ampAt [c] := by unfold ampAt; rw [if_pos (.inr h)]; omega
  unfold tokF
  conv => lhs; unfold tokV; rw [if_neg h0, if_neg (by omega)]
set_option maxRecDepth 3000 in
theorem tokF_slash (c d : UInt8) (s : List UInt8) (h : c.toNat = 92) : tokF (c :: d :: s) = (tokF s).map fun l => behindV d :: l := by
  have h0 : ¬0 < ampAt (c :: d :: s) := by unfold ampAt; rw [if_pos (.inr h)]; omega
  unfold tokF
  conv => lhs; unfold tokV; rw [if_neg h0, if_neg (by omega)]
  simp only []
  rw [tokV_fuel _ (s.length + 1) _ (by simp; omega) (by omega)]
/-- A replacement in memory: the block g. -/
def IsTpl (w : World) (g : Nat) (l : List Tok) : Prop := ∃ A cap, w.cell? ⟨g, 0, none⟩ = some (.slice A l.length cap) ∧ g < w.heap.size ∧ l.length ≤ cap ∧ cap ≤ 9223372036854775807 ∧ Rd w 1 A l.length (tl l)
set_option maxRecDepth 3000 in
theorem IsTpl.grows {w w' : World} {g : Nat} {l : List Tok} (h : IsTpl w g l) (hg : Grows w w') : IsTpl w' g l := by
  obtain ⟨A, cap, h1, h2, h3, h4, h5⟩ := h
  have h5' := h5.grows hg
  obtain ⟨m, rfl⟩ := hg
  exact ⟨A, cap, by rw [cell_more w m ⟨g, 0, none⟩ (show InHeap g w from h2)]; exact h1, by simp; omega, h3, h4, h5'⟩
/-- .. as it is being made. -/
def TplAt (w : World) (g : Nat) (l : List Tok) : Prop := ∃ v, w.heap[g]? = some (.cells #[v] 52 (0, 0)) ∧ w.ownsRow (g + 1) 57 1 v l.length (tl l)
set_option maxRecDepth 3000 in
theorem TplAt.is {w : World} {g : Nat} {l : List Tok} (h : TplAt w g l) : IsTpl w g l := by
  obtain ⟨v, hb, hown⟩ := h
  have hlt := (Array.getElem?_eq_some_iff.1 hb).1
  have hc : w.cell? ⟨g, 0, none⟩ = some v := by rw [Lib.cell_of_heap hb]; rfl
  rcases hown.2 with ⟨rfl, h0⟩ | ⟨b, cap, cur, rfl, _, hh, hcp, hm, hsz, ht⟩
  · obtain rfl := List.eq_nil_of_length_eq_zero h0
    exact ⟨none, 0, hc, hlt, by simp, by omega, Rd.nil_⟩
  · refine ⟨_, cap, hc, hlt, hcp, hm, by simp [tl_length], fun _ => ⟨b, 0, rfl, (Array.getElem?_eq_some_iff.1 hh).1, fun j u hu => ?_⟩⟩
    rw [cell_of_row w b _ cur _ _ hh, Nat.zero_add]
    rw [← ht, List.getElem?_take] at hu
    split at hu
    · simpa using hu
    · cases hu
set_option maxRecDepth 3000 in
set_option maxHeartbeats 1000000 in
theorem behind_any (c : UInt8) (w : World) : Calls Tryz.prog 14 #[.int .u8 c.toNat] w fun e w' => e = .returned (tokVal (behindV c)) ∧ Grows w w' := by
  have hc := c.toNat_lt
  have hcv : ∀ n, (convert 64 54 (.slice (some ⟨w.heap.size, 0, none⟩) 1 n)).run Tryz.prog (w.alloc (.cells #[.int .u8 c.toNat] 5)) = .ok (.string (tx [c])) (w.alloc (.cells #[.int .u8 c.toNat] 5)) := fun n => by
    have := run_convert_bytes_back (P := Tryz.prog) (w.alloc (.cells #[.int .u8 c.toNat] 5)) 64 54 5 ⟨w.heap.size, 0, none⟩ n [c] Tryz.underlying64 Tryz.underlying5 Tryz.underlying54
    exact this (fun j hj => by
      have : j = 0 := by simp at hj; omega
      subst this
      simp [go_sem])
  go_enter Tryz.func14, Tryz.ntmps14
  by_cases h1 : 49 ≤ c.toNat ∧ c.toNat ≤ 57
  · obtain ⟨h2, h3⟩ := h1
    have HV : Hid (behindV c = .grp (c.toNat - 48)) := Lib.hid (by unfold behindV; rw [if_pos ⟨h2, h3⟩])
    have hn : ((c.toNat - 48 : Nat) : Int) = (c.toNat : Int) - 48 := by omega
    go_wp2_with fail
    go_ret
    exact ⟨by rw [HV.out]; unfold tokVal; simp only []; rw [hn]; rfl, Grows.refl _⟩
  · by_cases h2 : c.toNat = 110
    · have HV : Hid (behindV c = .text [10]) := Lib.hid (by unfold behindV; rw [if_neg h1, if_pos h2])
      have e1 : ((c.toNat : Int) == 110) = true := by rw [h2]; rfl
      have d1 : ¬(c.toNat : Int) ≤ 57 := by omega
      clear h1
      go_wp2_with fail
      go_ret
      exact ⟨by rw [HV.out]; rfl, Grows.refl _⟩
    · have HV : Hid (behindV c = .text [c]) := Lib.hid (by unfold behindV; rw [if_neg h1, if_neg h2])
      have e1 : ((c.toNat : Int) == 110) = false := by rw [beq_eq_false_iff_ne]; omega
      by_cases h3 : 49 ≤ c.toNat
      · have d1 : ¬(c.toNat : Int) ≤ 57 := by omega
        clear h1
        go_wp2_with fail
        go_ret
        exact ⟨by rw [HV.out]; rfl, (Grows.refl _).alloc _⟩
      · have d1 : ¬(49 : Int) ≤ (c.toNat : Int) := by omega
        clear h1
        go_wp2_with fail
        go_ret
        exact ⟨by rw [HV.out]; rfl, (Grows.refl _).alloc _⟩
/-- Parse's answer. -/
def TplPost (s : List UInt8) (w : World) (e : Ending) (w' : World) : Prop := match tokF s with
  | none => e = .returned (.tuple #[.pointer none, .int .i64 110]) ∧ Grows w w'
  | some l => ∃ g, e = .returned (.tuple #[.pointer (some ⟨g, 0, none⟩), .int .i64 0]) ∧ IsTpl w' g l ∧ w.heap.size ≤ g ∧ Grows w w'
set_option maxRecDepth 3000 in
theorem own_growsG {w w' : World} {base n size : Nat} {e : TypeId} {v : Value} {xs : List Value} (h : w.ownsRow base e size v n xs) (hg : Grows w w') : w'.ownsRow base e size v n xs := by
  obtain ⟨h1, h2⟩ := h
  refine ⟨h1, h2.elim Or.inl ?_⟩
  rintro ⟨g, cap, cur, hv, hb, hh, r⟩
  obtain ⟨m, rfl⟩ := hg
  exact Or.inr ⟨g, cap, cur, hv, hb, by rw [heap_more w m g (Array.getElem?_eq_some_iff.1 hh).1]; exact hh, r⟩
set_option maxRecDepth 3000 in
theorem TplAt.grows {w w' : World} {g : Nat} {l : List Tok} (h : TplAt w g l) (hg : Grows w w') : TplAt w' g l := by
  obtain ⟨v, hb, hown⟩ := h
  refine ⟨v, ?_, own_growsG hown hg⟩
  obtain ⟨m, rfl⟩ := hg
  rw [heap_more w m g (Array.getElem?_eq_some_iff.1 hb).1]; exact hb
set_option maxRecDepth 3000 in
theorem below_grows {n : Nat} {w a b : World} (h : Below n w a) (hn : n ≤ w.heap.size) (hg : Grows a b) : Below n w b := h.trans (hg.below.mono (Nat.le_trans hn h.size))
set_option maxRecDepth 3000 in
theorem indexAny_lit (s : List UInt8) (w : World) (hl : s.length ≤ 1000000) : Calls Tryz.prog 13 #[.string (tx s), .string ⟨#[38, 92]⟩] w fun e w' => e = .returned (.int .i64 (if ampAt s < s.length then (ampAt s : Int) else -1)) ∧ Grows w w' := by
  have h := indexAny_amp s w hl
  rw [ampAt_index] at h
  exact h
set_option maxRecDepth 3000 in
theorem grow_heap {X w2 : World} {g n : Nat} {v : Value} {xs : List Value} {e : TypeId} {ob : Obj} (hgrow : X.grownBy w2 v.ownBlock) (hb : X.heap[g]? = some ob) (hown : X.ownsRow (g + 1) e 1 v n xs) : w2.heap[g]? = some ob := by
  have hlt := (Array.getElem?_eq_some_iff.1 hb).1
  rw [hgrow.block g hlt (fun h => by have := hown.lt g h.symm; omega)]
  exact hb
set_option maxRecDepth 3000 in
/-- A piece was appended, and the list is laid into its field. -/
theorem tpl_put {w wx X w2 : World} {done : List Tok} {t : Tok} {v v2 : Value} (hB : Below w.heap.size w wx) (hb : wx.heap[w.heap.size]? = some (.cells #[v] 52 (0, 0))) (hown : wx.ownsRow (w.heap.size + 1) 57 1 v done.length (tl done)) (hX : Grows wx X)
    (hgrow : X.grownBy w2 v.ownBlock) (hown2 : w2.ownsRow (w.heap.size + 1) 57 1 v2 (done.length + 1) (tl done ++ [tokVal t])) :
    w2.cell? ⟨w.heap.size, 0, none⟩ = some v ∧ w2.frozen? ⟨w.heap.size, 0, none⟩ = false ∧ TplAt (w2.setCell ⟨w.heap.size, 0, none⟩ v2) w.heap.size (done ++ [t]) ∧ Below w.heap.size w (w2.setCell ⟨w.heap.size, 0, none⟩ v2) := by
  have hbX : X.heap[w.heap.size]? = some (.cells #[v] 52 (0, 0)) := by
    obtain ⟨m, rfl⟩ := hX
    rw [heap_more wx m _ (Array.getElem?_eq_some_iff.1 hb).1]; exact hb
  have hownX := own_growsG hown hX
  have hb2 := grow_heap hgrow hbX hownX
  have hBX := below_grows hB (Nat.le_refl _) hX
  refine ⟨by rw [Lib.cell_of_heap hb2]; rfl, Lib.frozen_of_heap hb2 0, ⟨v2, ?_, ?_⟩, ?_⟩
  · simp [World.setCell, Array.getElem?_modify, hb2]
  · rw [List.length_append, List.length_singleton, ← tl_snoc]
    exact ownsRow_setCell_below hown2 (a := ⟨w.heap.size, 0, none⟩) (by simp) _
  · exact (hBX.grown hgrow hBX.size (fun k hk => by have := hownX.lt k hk; omega)).setCell (p := ⟨w.heap.size, 0, none⟩) (Nat.le_refl _) _
set_option maxRecDepth 3000 in
theorem tok_iface (t : Tok) : ∃ ty u, tokVal t = .iface ty u := by cases t <;> exact ⟨_, _, rfl⟩
set_option maxRecDepth 3000 in
theorem own_slice {w : World} {base n size : Nat} {e : TypeId} {v : Value} {xs : List Value} (h : w.ownsRow base e size v n xs) : ∃ A cap, v = .slice A n cap := by
  rcases h.2 with ⟨rfl, rfl⟩ | ⟨g, cap, cur, rfl, _⟩
  · exact ⟨none, 0, rfl⟩
  · exact ⟨_, cap, rfl⟩
set_option maxRecDepth 100000 in
set_option maxHeartbeats 4000000 in
theorem tplParse_any (s : List UInt8) (w : World) (hl : s.length ≤ 1000000) : Calls Tryz.prog 6 #[.string (tx s)] w (TplPost s w) := by
  obtain ⟨i0, hi, hz0, hz1, hz2⟩ := info_parts infoPiece
  go_enter Tryz.func6, Tryz.ntmps6
  go_wp2_with fail
  go_loopg [0, 5] s.length (fun q v0 _ wr => ∃ (done : List Tok) (rest : List UInt8), q = rest.length ∧ v0 = .string (tx rest) ∧ tokF s = (tokF rest).map (fun l => done ++ l) ∧ done.length + rest.length ≤ s.length ∧ TplAt wr w.heap.size done ∧ Below w.heap.size w wr)
  case atStart => exact ⟨[], s, rfl, rfl, by simp, by simp, ⟨_, World.alloc_heap_new _ _, World.ownsRow_nil _ _ _ _⟩, (Below.refl _ w).alloc (Nat.le_refl _) _⟩
  case round =>
    obtain ⟨done, rest, hq, rfl, htok, hlen, hT, hB⟩ := hrel
    have HQ := Lib.hid hq
    have HTOK := Lib.hid htok
    have HT := Lib.hid hT
    have HB := Lib.hid hB
    clear hq htok hT hB
    by_cases hr : rest = []
    · subst hr
      have he : (tx []).toList.isEmpty = true := by rw [ByteArray.toList_eq]; rfl
      go_wp2_with fail
      go_ret2
      unfold TplPost
      rw [HTOK.out]
      exact ⟨_, rfl, by simpa using HT.out.is, Nat.le_refl _, Grows.of_below HB.out⟩
    · have he : (tx rest).toList.isEmpty = false := by rw [ByteArray.toList_eq, tx_data]; simpa using hr
      have hpos : 0 < rest.length := List.length_pos_iff.2 hr
      have HR := Lib.hid hr
      have hal := ampAt_le rest
      clear hr
      go_wp2_with fail
      (with_reducible refine (indexAny_lit rest _ (by omega)).mono ?_)
      rintro e wx ⟨rfl, hgx⟩
      have hT := HT.out.grows hgx
      have HB := Lib.hid (below_grows HB.out (Nat.le_refl _) hgx)
      clear hgx HT
      obtain ⟨v, hb, hown⟩ := hT
      have hlt := (Array.getElem?_eq_some_iff.1 hb).1
      have hc : wx.cell? ⟨w.heap.size, 0, none⟩ = some v := by rw [Lib.cell_of_heap hb]; rfl
      have hf : wx.frozen? ⟨w.heap.size, 0, none⟩ = false := Lib.frozen_of_heap hb 0
      have hIn : InHeap w.heap.size wx := hlt
      have HS := Lib.hid hb
      have HO := Lib.hid hown
      by_cases h1 : 0 < ampAt rest
      · have hI : Hid (∃ t : Int, t = if ampAt rest < rest.length then (ampAt rest : Int) else -1) := Lib.hid ⟨_, rfl⟩
        have htk : (tx rest).extract 0 (ampAt rest) = tx (rest.take (ampAt rest)) := by rw [tx_mid]; simp
        have hdr : (tx rest).extract (ampAt rest) rest.length = tx (rest.drop (ampAt rest)) := tx_from rest _
        by_cases h2 : ampAt rest < rest.length
        · rw [if_pos h2]
          clear hb hown
          have k0 : (0 : Int) ≤ (ampAt rest : Int) := by omega
          have k1 : (0 : Int) < (ampAt rest : Int) := by omega
          have k2 : (ampAt rest : Int) ≤ (rest.length : Int) := by omega
          go_wp2_with fail
          go_region_law ((refine step_append_rd _ (by rfl) (.tmp 22) (.tmp 27) 50 (by rfl) (w.heap.size + 1) 57 i0 .nilIface 16 Tryz.underlying50 hi hz0 hz1 hz2 (by rfl) v done.length (tl done) (by simp [Act.eval]) (own_growsG HO.out (by repeat' first | exact Grows.refl _ | refine Grows.more ?_ _ | refine Grows.alloc ?_ _ | refine Grows.drewN ?_ _ | refine Grows.drew ?_)) _ 1 1 [tokVal (.text (rest.take (ampAt rest)))] (by simp [Act.eval]) (fun h => by cases h) (rd_new _ _ _ 1 _ rfl rfl) (by simp [tokVal, Value.oneCell']) (by unfold maxLen; omega) (by omega) (by simp; omega) ?_; intro v2 w2 hown2 hgrow2; obtain ⟨hc2, hf2, hT2, hB2⟩ := tpl_put HB.out HS.out HO.out (by repeat' first | exact Grows.refl _ | refine Grows.more ?_ _ | refine Grows.alloc ?_ _ | refine Grows.drewN ?_ _ | refine Grows.drew ?_) hgrow2 hown2; have HT2 := Lib.hid hT2; have HB2 := Lib.hid hB2; clear hT2 hB2 hgrow2; obtain ⟨A2, c2, rfl⟩ := own_slice hown2; clear hown2))
          all_goals
            go_wp2_with fail
            go_roundg (gk - ampAt rest)
            case measure => have := HQ.out; omega
            case rel => exact ⟨_, rest.drop (ampAt rest), by rw [HQ.out, List.length_drop], rfl, by rw [HTOK.out, tokF_text rest h1 HR.out, Option.map_map]; congr 1; funext l; simp, by simp; omega, HT2.out, HB2.out⟩
        · rw [if_neg h2]
          have h3 : ampAt rest = rest.length := by omega
          have k1 : (0 : Int) < (rest.length : Int) := by omega
          have htk : (tx rest).extract 0 rest.length = tx rest := by rw [tx_mid]; simp
          have hdr : (tx rest).extract rest.length rest.length = tx [] := by rw [tx_from]; simp
          clear hb hown
          have H3 := Lib.hid h3
          clear h3
          go_wp2_with fail
          go_region_law ((refine step_append_rd _ (by rfl) (.tmp 22) (.tmp 27) 50 (by rfl) (w.heap.size + 1) 57 i0 .nilIface 16 Tryz.underlying50 hi hz0 hz1 hz2 (by rfl) v done.length (tl done) (by simp [Act.eval]) (own_growsG HO.out (by repeat' first | exact Grows.refl _ | refine Grows.more ?_ _ | refine Grows.alloc ?_ _ | refine Grows.drewN ?_ _ | refine Grows.drew ?_)) _ 1 1 [tokVal (.text rest)] (by simp [Act.eval]) (fun h => by cases h) (rd_new _ _ _ 1 _ rfl rfl) (by simp [tokVal, Value.oneCell']) (by unfold maxLen; omega) (by omega) (by simp; omega) ?_; intro v2 w2 hown2 hgrow2; obtain ⟨hc2, hf2, hT2, hB2⟩ := tpl_put HB.out HS.out HO.out (by repeat' first | exact Grows.refl _ | refine Grows.more ?_ _ | refine Grows.alloc ?_ _ | refine Grows.drewN ?_ _ | refine Grows.drew ?_) hgrow2 hown2; have HT2 := Lib.hid hT2; have HB2 := Lib.hid hB2; clear hT2 hB2 hgrow2; obtain ⟨A2, c2, rfl⟩ := own_slice hown2; clear hown2))
          all_goals
            go_wp2_with fail
            go_roundg (gk - rest.length)
            case measure => have := HQ.out; omega
            case rel => exact ⟨_, [], by rw [HQ.out]; simp, rfl, by rw [HTOK.out, tokF_text rest h1 HR.out, Option.map_map, H3.out, List.drop_length, List.take_length]; congr 1; funext l; simp, by simp; omega, HT2.out, HB2.out⟩
      · have h0 : ampAt rest = 0 := by omega
        rw [if_pos (by omega), h0]
        cases rest with
        | nil => exact absurd rfl HR.out
        | cons c r =>
          clear hb hown h1 hal
          have hlen' : done.length + (r.length + 1) ≤ s.length := by simpa using hlen
          have hr1 : (c :: r).length = r.length + 1 := rfl
          have hcc : c.toNat = 38 ∨ c.toNat = 92 := by
            unfold ampAt at h0
            split at h0
            · assumption
            · omega
          have x1 : (tx (c :: r)).extract 1 (r.length + 1) = tx r := tx_from (c :: r) 1
          clear h0 hlen hr1 he
          rcases hcc with h38 | h92
          · have e1 : ((c.toNat : Int) == 38) = true := by rw [h38]; rfl
            have H38 := Lib.hid h38
            clear h38
            have k1 : (1 : Int) ≤ (r.length : Int) + 1 := by omega
            go_wp2_with fail
            go_region_law ((refine step_append_rd _ (by rfl) (.tmp 41) (.tmp 43) 50 (by rfl) (w.heap.size + 1) 57 i0 .nilIface 16 Tryz.underlying50 hi hz0 hz1 hz2 (by rfl) v done.length (tl done) (by simp [Act.eval]) (own_growsG HO.out (by repeat' first | exact Grows.refl _ | refine Grows.more ?_ _ | refine Grows.alloc ?_ _ | refine Grows.drewN ?_ _ | refine Grows.drew ?_)) _ 1 1 [tokVal (.grp 0)] (by simp [Act.eval]) (fun h => by cases h) (rd_new _ _ _ 1 _ rfl rfl) (by simp [tokVal, Value.oneCell']) (by unfold maxLen; omega) (by omega) (by simp; omega) ?_; intro v2 w2 hown2 hgrow2; obtain ⟨hc2, hf2, hT2, hB2⟩ := tpl_put HB.out HS.out HO.out (by repeat' first | exact Grows.refl _ | refine Grows.more ?_ _ | refine Grows.alloc ?_ _ | refine Grows.drewN ?_ _ | refine Grows.drew ?_) hgrow2 hown2; have HT2 := Lib.hid hT2; have HB2 := Lib.hid hB2; clear hT2 hB2 hgrow2; obtain ⟨A2, c2, rfl⟩ := own_slice hown2; clear hown2))
            all_goals
              go_wp2_with fail
              go_roundg (gk - 1)
              case measure => have := HQ.out; simp at this; omega
              case rel => exact ⟨_, r, by rw [HQ.out]; simp, rfl, by rw [HTOK.out, tokF_amp c r H38.out, Option.map_map]; congr 1; funext l; simp, by simp; omega, HT2.out, HB2.out⟩
          · have e1 : ((c.toNat : Int) == 38) = false := by rw [h92]; rfl
            have H92 := Lib.hid h92
            clear h92
            cases r with
            | nil =>
              go_wp2_with fail
              go_ret2
              unfold TplPost
              rw [HTOK.out, tokF_end c H92.out]
              exact ⟨rfl, Grows.of_below HB.out⟩
            | cons d r =>
              have hlen2 : done.length + (r.length + 1 + 1) ≤ s.length := by simpa using hlen'
              have x2 : (tx (c :: d :: r)).extract 2 (r.length + 1 + 1) = tx r := tx_from (c :: d :: r) 2
              have e2 : ((r.length : Int) + 1 + 1 == 1) = false := by rw [beq_eq_false_iff_ne]; omega
              clear hlen' x1
              obtain ⟨ty, u, hu⟩ := tok_iface (behindV d)
              have hbeh := fun W => behind_any d W
              rw [hu] at hbeh
              have HU := Lib.hid hu
              have HBEH := Lib.hid hbeh
              clear hu hbeh
              have k1 : (1 : Int) < (r.length : Int) + 1 + 1 := by omega
              have k2 : (2 : Int) ≤ (r.length : Int) + 1 + 1 := by omega
              go_wp2_with fail
              go_region_law (first | ((go_simp; (with_reducible refine (HBEH.out _).mono ?_); rintro e w1 ⟨rfl, m1, rfl⟩; dsimp only)) | ((refine step_append_rd _ (by rfl) (.tmp 56) (.tmp 60) 50 (by rfl) (w.heap.size + 1) 57 i0 .nilIface 16 Tryz.underlying50 hi hz0 hz1 hz2 (by rfl) v done.length (tl done) (by simp [Act.eval]) (own_growsG HO.out (by repeat' first | exact Grows.refl _ | refine Grows.more ?_ _ | refine Grows.alloc ?_ _ | refine Grows.drewN ?_ _ | refine Grows.drew ?_)) _ 1 1 [.iface ty u] (by simp [Act.eval]) (fun h => by cases h) (rd_new _ _ _ 1 _ rfl rfl) (by simp [Value.oneCell']) (by unfold maxLen; omega) (by omega) (by simp; omega) ?_; intro v2 w2 hown2 hgrow2; obtain ⟨hc2, hf2, hT2, hB2⟩ := tpl_put HB.out HS.out HO.out (by repeat' first | exact Grows.refl _ | refine Grows.more ?_ _ | refine Grows.alloc ?_ _ | refine Grows.drewN ?_ _ | refine Grows.drew ?_) hgrow2 (t := behindV d) (by rw [HU.out]; exact hown2); have HT2 := Lib.hid hT2; have HB2 := Lib.hid hB2; clear hT2 hB2 hgrow2; obtain ⟨A2, c2, rfl⟩ := own_slice hown2; clear hown2)))
              all_goals
                go_wp2_with fail
                go_roundg (gk - 2)
                case measure => have := HQ.out; simp at this; omega
                case rel => exact ⟨_, r, by rw [HQ.out]; simp, rfl, by rw [HTOK.out, tokF_slash c d r H92.out, Option.map_map]; congr 1; funext l; simp, by simp; omega, HT2.out, HB2.out⟩
end Go.Proofs.YtkomggeionofbaaGreatDoor
