/-
  Lines: strings.Cut at a line's end; the iterator each.
-/
import Derived.Test.YteabpdahhjfaiaaLinesPlain
import Derived.Test.YteabpdahhjfaiaaStrs
import Derived.Test.YteabpdahhjfaiaaShelf
import Derived.Test.YteabpdahhjfaiaaRange
namespace Go.Proofs.Yteabpdahhjfaiaa
open Go.RowKit Go.Shelf

/-- A text of bytes. -/
def tx (l : List UInt8) : ByteArray := ⟨l.toArray⟩
theorem tx_of (s : ByteArray) : tx s.data.toList = s := by simp [tx]
@[simp] theorem tx_data (l : List UInt8) : (tx l).data.toList = l := by simp [tx]
@[simp] theorem tx_size (l : List UInt8) : (tx l).size = l.length := by simp [tx, ByteArray.size]
theorem tx_inj {a b : List UInt8} (h : tx a = tx b) : a = b := by
  have := congrArg (fun s : ByteArray => s.data.toList) h; simpa using this
theorem tx_head (a b : List UInt8) : (tx (a ++ b)).extract 0 a.length = tx a := by
  apply WideShapes.bytes_inj; simp [ByteArray.data_extract, Array.toList_extract]
theorem tx_tail (a b : List UInt8) (n m : Nat) (hn : n = a.length) (hm : m = a.length + b.length) : (tx (a ++ b)).extract n m = tx b := by
  subst hn hm
  apply WideShapes.bytes_inj; simp [ByteArray.data_extract, Array.toList_extract]
theorem tx_behind (a b : List UInt8) : (tx (a ++ 10 :: b)).extract (a.length + 1) (a.length + (b.length + 1)) = tx b := by
  have := tx_tail (a ++ [10]) b (a.length + 1) (a.length + (b.length + 1)) (by simp) (by simp; omega)
  simpa using this
theorem cut_ret {x x' y y' : ByteArray} (h : x = x') (k : y = y') : Ending.returned (.tuple #[.string x, .string y, .bool true]) = .returned (.tuple #[.string x', .string y', .bool true]) := by rw [h, k]
theorem index_no (l : List UInt8) (c : UInt8) (h : c ∉ l) : Lib.indexByte l c = -1 := by
  induction l with
  | nil => rfl
  | cons b l ih =>
    have hb : (b == c) = false := by simp; rintro rfl; exact h (by simp)
    have := ih (fun e => h (by simp [e]))
    simp [Lib.indexByte, hb, this]
theorem index_yes (a b : List UInt8) (c : UInt8) (h : c ∉ a) : Lib.indexByte (a ++ c :: b) c = a.length := by
  induction a with
  | nil => simp [Lib.indexByte]
  | cons d a ih =>
    have hb : (d == c) = false := by simp; rintro rfl; exact h (by simp)
    have := ih (fun e => h (by simp [e]))
    simp only [List.cons_append, Lib.indexByte, hb, this]
    simp

set_option maxHeartbeats 400000 in
theorem liteCut_no (l : List UInt8) (w : World) (h : 10 ∉ l) :
    Calls Try.prog 37 #[.string (tx l), .string ⟨#[10]⟩] w fun e w' => e = .returned (.tuple #[.string (tx l), .string (tx []), .bool false]) ∧ w = w' := by
  have H := Lib.hid (index_no l 10 h)
  go_enter Try.func37, Try.ntmps37
  go_wp2_with fail
  (with_reducible refine (Try.stringslite_Index_one (tx l) 10 _).mono ?_)
  rw [tx_data, H.out]
  rintro e w' ⟨rfl, rfl⟩
  go_wp2_with fail
  go_ret3
  exact ⟨rfl, rfl⟩
set_option maxHeartbeats 400000 in
theorem liteCut_yes (a b : List UInt8) (w : World) (h : 10 ∉ a) (hl : (a ++ 10 :: b).length ≤ 9223372036854775807) :
    Calls Try.prog 37 #[.string (tx (a ++ 10 :: b)), .string ⟨#[10]⟩] w fun e w' => e = .returned (.tuple #[.string (tx a), .string (tx b), .bool true]) ∧ ∃ n, w' = w.drewN n := by
  have H := Lib.hid (index_yes a b 10 h)
  have hl' : a.length + (b.length + 1) ≤ 9223372036854775807 := by simpa using hl
  have hz : (tx (a ++ 10 :: b)).size = a.length + (b.length + 1) := by simp
  have hz1 : a.length + 1 ≤ (tx (a ++ 10 :: b)).size := by omega
  have hz2 : (tx (a ++ 10 :: b)).size ≤ 9223372036854775807 := by omega
  have i1 : (0 : Int) ≤ (a.length : Int) := Int.natCast_nonneg _
  have i2 : (a.length : Int) ≤ ((tx (a ++ 10 :: b)).size : Int) := by omega
  have i3 : (a.length : Int) + 1 ≤ ((tx (a ++ 10 :: b)).size : Int) := by omega
  have i4 : IntKind.i64.wrap ((a.length : Int) + 1) = (a.length : Int) + 1 := IntWalk.i64_in _ (by omega)
  have i5 : ((a.length : Int) + 1).toNat = a.length + 1 := by omega
  have HZ := Lib.hid hz
  clear hz
  go_enter Try.func37, Try.ntmps37
  go_wp2_with fail
  (with_reducible refine (Try.stringslite_Index_one (tx (a ++ 10 :: b)) 10 _).mono ?_)
  rw [tx_data, H.out]
  rintro e w' ⟨rfl, rfl⟩
  go_wp2_with fail
  go_quiet (fail)
  go_wp2_with fail
  go_ret3
  exact ⟨cut_ret (tx_head a _) (tx_behind a b), _, rfl⟩
set_option maxHeartbeats 400000 in
theorem cut_no (l : List UInt8) (w : World) (h : 10 ∉ l) :
    Calls Try.prog 33 #[.string (tx l), .string ⟨#[10]⟩] w fun e w' => e = .returned (.tuple #[.string (tx l), .string (tx []), .bool false]) ∧ w = w' := by
  have H := Lib.hid h
  clear h
  go_enter Try.func33, Try.ntmps33
  go_wp2_with fail
  (with_reducible refine (liteCut_no l _ H.out).mono ?_)
  rintro e w' ⟨rfl, rfl⟩
  go_wp2_with fail
  go_ret3
  exact ⟨rfl, rfl⟩
set_option maxHeartbeats 400000 in
theorem cut_yes (a b : List UInt8) (w : World) (h : 10 ∉ a) (hl : (a ++ 10 :: b).length ≤ 9223372036854775807) :
    Calls Try.prog 33 #[.string (tx (a ++ 10 :: b)), .string ⟨#[10]⟩] w fun e w' => e = .returned (.tuple #[.string (tx a), .string (tx b), .bool true]) ∧ ∃ n, w' = w.drewN n := by
  have H := Lib.hid h
  clear h
  go_enter Try.func33, Try.ntmps33
  go_wp2_with fail
  (with_reducible refine (liteCut_yes a b _ H.out hl).mono ?_)
  rintro e w' ⟨rfl, n, rfl⟩
  go_wp2_with fail
  go_ret3
  exact ⟨rfl, n, rfl⟩

attribute [local go_sem] Oper.semAt_some
/-- The text that a box holds: so many bytes. -/
def boxLeft (B : Nat) (W : World) : Nat := match W.cell? ⟨B, 0, none⟩ with | some (.string t) => t.size | _ => 0
theorem boxLeft_of {B : Nat} {W : World} {t : ByteArray} (h : W.cell? ⟨B, 0, none⟩ = some (.string t)) : boxLeft B W = t.size := by simp [boxLeft, h]

set_option maxRecDepth 100000 in
set_option maxHeartbeats 1000000 in
theorem each1_in (n : Nat) (hn : 1 ≤ n) (l B : Nat) (s : List UInt8) (hs : s.length ≤ 9223372036854775807) (J : Nat → World → Prop)
    (hbox : ∀ k W, J k W → ∃ v, W.heap[B]? = some (.cells #[v] 9 (0, 0))) (hset : ∀ k W v, J k W → J k (W.setCell ⟨B, 0, none⟩ v)) (hdrew : ∀ k W m, J k W → J k (W.drewN m))
    (hY : ∀ k x W, (itemsL s)[k]? = some x → J k W → YieldAt Fence.wide (n - 1) Try.prog l #[.string (tx x.1), .bool x.2] W fun e W' => e = .returned (.bool true) ∧ J (k + 1) W')
    (W : World) (hc : W.cell? ⟨B, 0, none⟩ = some (.string (tx s))) (h0 : J 0 W) :
    CallsIn Fence.wide n Try.prog 32 #[.func (.yield l) #[] #[], .pointer (some ⟨B, 0, none⟩)] W fun e W' => (∃ v, e = .returned v) ∧ J (itemsL s).length W' := by
  refine callsIn_of_wp Try.func32 rfl trivial ?_ rfl
  simp only [Try.ntmps32, List.size_toArray, List.length_cons, List.length_nil, Nat.reduceAdd, Nat.reduceSub, Array.replicate_succ, Array.replicate_zero, List.push_toArray, List.append_toArray, List.nil_append, List.cons_append]
  have HY := Lib.hid hY
  have HS := Lib.hid hset
  have HD := Lib.hid hdrew
  have HB := Lib.hid hbox
  clear hY hset hdrew hbox
  gi_wp2
  gi_loopw [3, 4, 5] (fun _ _ _ wr => ∃ (k : Nat) (t : List UInt8), wr.cell? ⟨B, 0, none⟩ = some (.string (tx t)) ∧ (itemsL s).drop k = itemsL t ∧ k ≤ (itemsL s).length ∧ t.length ≤ s.length ∧ J k wr)
    (fun _ _ _ wr => boxLeft B wr)
  case atStart => exact ⟨0, s, hc, rfl, Nat.zero_le _, Nat.le_refl _, h0⟩
  case round =>
    obtain ⟨k, t, hct, hdr, hkl, htl, hJ⟩ := hrel
    rcases cut_cases t with ht | ⟨a, b, rfl, ha⟩
    · by_cases h0 : t = []
      · subst h0
        have he : (tx []).toList.isEmpty = true := by simp [ByteArray.toList_eq]
        have hk : k = (itemsL s).length := by
          have := congrArg List.length hdr
          simp [itemsL] at this
          omega
        have HJ := Lib.hid hJ
        have HK := Lib.hid hk
        clear hJ hk hdr
        gi_wp2
        go_end0
        exact ⟨⟨_, rfl⟩, HK.out ▸ HJ.out⟩
      · have he : (tx t).toList.isEmpty = false := by simpa [ByteArray.toList_eq] using h0
        have hi := itemsL_last t ht h0
        rw [hi] at hdr
        have hx : (itemsL s)[k]? = some (t, false) := by
          have := congrArg (fun l => l[0]?) hdr
          simpa using this
        have hd1 : (itemsL s).drop (k + 1) = [] := by
          have := congrArg List.tail hdr
          simpa using this
        have hkl' : k + 1 ≤ (itemsL s).length := by
          have := (List.getElem?_eq_some_iff.1 hx).1
          omega
        obtain ⟨fn, tmps, assign, body, hy, hR⟩ := HY.out k (t, false) wr hx hJ
        have H1 := Lib.hid hd1
        have HJ := Lib.hid hJ
        have HT := Lib.hid ht
        have HX := Lib.hid hx
        have HC := Lib.hid hct
        clear hd1 hJ hdr hi h0 ht hx
        gi_wp2_with fail
        refine ⟨trivial, ?_⟩
        refine (callsIn_wide.2 (cut_no t _ HT.out)).mono ?_
        rintro e w' ⟨rfl, rfl⟩
        gi_wp2
        refine hR.mono ?_
        rintro e W3 ⟨rfl, hJ3⟩
        obtain ⟨v3, hb3⟩ := HB.out _ _ hJ3
        have c3 : W3.cell? ⟨B, 0, none⟩ = some v3 := cell_of_one hb3
        have f3 : W3.frozen? ⟨B, 0, none⟩ = false := free_of_one hb3
        have HJ3 := Lib.hid hJ3
        have HB3 := Lib.hid hb3
        clear hJ3 hb3 hR hy
        gi_wp2
        go_roundw
        case rel => exact ⟨k + 1, [], by rw [World.cell?_setCell_same' _ _ _ (by rw [c3]; rfl)], H1.out, hkl', by simp, HS.out _ _ _ HJ3.out⟩
        case measure =>
          rw [boxLeft_of (t := tx []) (World.cell?_setCell_same' _ _ _ (by rw [c3]; rfl)), boxLeft_of HC.out]
          have : t ≠ [] := by rintro rfl; simp [ByteArray.toList_eq] at he
          have := List.length_pos_iff.2 this
          simp; omega
    · have he : (tx (a ++ 10 :: b)).toList.isEmpty = false := by simp [ByteArray.toList_eq]
      have hi := itemsL_cut a b ha
      rw [hi] at hdr
      have hx : (itemsL s)[k]? = some (a, true) := by
        have := congrArg (fun l => l[0]?) hdr
        simpa using this
      have hd1 : (itemsL s).drop (k + 1) = itemsL b := by
        have := congrArg List.tail hdr
        simpa using this
      have hkl' : k + 1 ≤ (itemsL s).length := by
        have := (List.getElem?_eq_some_iff.1 hx).1
        omega
      have htl' : b.length ≤ s.length := by simp at htl; omega
      have H1 := Lib.hid hd1
      have HJ := Lib.hid hJ
      have HA := Lib.hid ha
      have HX := Lib.hid hx
      have HC := Lib.hid hct
      clear hd1 hJ hdr hi ha hx
      gi_wp2_with fail
      refine ⟨trivial, ?_⟩
      refine (callsIn_wide.2 (cut_yes a b _ HA.out (by omega))).mono ?_
      rintro e w' ⟨rfl, nd, rfl⟩
      obtain ⟨fn, tmps, assign, body, hy, hR⟩ := HY.out k (a, true) (wr.drewN nd) HX.out (HD.out _ _ _ HJ.out)
      gi_wp2
      refine hR.mono ?_
      rintro e W3 ⟨rfl, hJ3⟩
      obtain ⟨v3, hb3⟩ := HB.out _ _ hJ3
      have c3 : W3.cell? ⟨B, 0, none⟩ = some v3 := cell_of_one hb3
      have f3 : W3.frozen? ⟨B, 0, none⟩ = false := free_of_one hb3
      have HJ3 := Lib.hid hJ3
      have HB3 := Lib.hid hb3
      clear hJ3 hb3 hR hy
      gi_wp2
      go_roundw
      case rel => exact ⟨k + 1, b, by rw [World.cell?_setCell_same' _ _ _ (by rw [c3]; rfl)], H1.out, hkl', htl', HS.out _ _ _ HJ3.out⟩
      case measure =>
        rw [boxLeft_of (t := tx b) (World.cell?_setCell_same' _ _ _ (by rw [c3]; rfl)), boxLeft_of HC.out]
        simp; omega

set_option maxHeartbeats 1000000 in
theorem each_any (s : ByteArray) (w : World) :
    Calls Try.prog 23 #[.string s] w fun e w' => e = .returned (.func (.func 32) #[] #[.pointer (some ⟨w.heap.size, 0, none⟩)]) ∧ w' = w.alloc (.cells #[.string s] 9) := by
  go_enter Try.func23, Try.ntmps23
  go_wp2
  go_ret
  exact ⟨rfl, rfl⟩
end Go.Proofs.Yteabpdahhjfaiaa
