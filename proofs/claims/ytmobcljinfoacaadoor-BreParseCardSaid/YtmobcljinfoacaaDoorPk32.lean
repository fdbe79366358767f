/-
  Several texts of the proof: BreRdD, BreRdS.
-/
import Derived.Test.YtmobcljinfoacaaDoorPk31
import Derived.Test.YtmobcljinfoacaaDoorPk19
/-
  Patterns: the document's reader: a number's digits.
-/
namespace Go.Proofs.YtmobcljinfoacaaDoor
open Go.RowKit

attribute [local go_sem] tx_bt
set_option maxRecDepth 3000 in
theorem numR_next (d : List UInt8) (j : Nat) (h : j < d.length) : numR (d.take (j + 1)) = min (10 * numR (d.take j) + (d[j].toNat - 48)) 1000 := by
  unfold numR
  rw [List.take_add_one, List.getElem?_eq_getElem h, List.foldl_append]
  rfl
set_option maxRecDepth 3000 in
theorem numR_le1000 (d : List UInt8) : numR d ≤ 1000 := by
  unfold numR
  rcases List.eq_nil_or_concat d with rfl | ⟨u, c, rfl⟩
  · simp
  · simp only [List.concat_eq_append, List.foldl_append, List.foldl_cons, List.foldl_nil]
    omega
/-- The digits that stand at a place. -/
structure Digs (s : List UInt8) (at_ D : Nat) (d : List UInt8) : Prop where
  eq : (s.drop at_).takeWhile isDig = d
  len : d.length = D
  fits : at_ + D ≤ s.length
  dig : ∀ j (h : j < d.length), bt s (at_ + j) = d[j].toNat ∧ 48 ≤ d[j].toNat ∧ d[j].toNat ≤ 57
  stop : at_ + D < s.length → bt s (at_ + D) < 48 ∨ 57 < bt s (at_ + D)
set_option maxRecDepth 3000 in
theorem digs_of (s : List UInt8) (at_ : Nat) (h : at_ ≤ s.length) : ∃ D d, Digs s at_ D d := by
  have e := List.takeWhile_append_dropWhile (p := isDig) (l := s.drop at_)
  have hd : ∀ x ∈ (s.drop at_).takeWhile isDig, isDig x = true := List.all_eq_true.1 (List.all_takeWhile ..)
  have hr : ∀ c r, (s.drop at_).dropWhile isDig = c :: r → isDig c = false := fun c r hc => by
    have := List.head?_dropWhile_not isDig (s.drop at_)
    rw [hc] at this
    simpa using this
  generalize hda : (s.drop at_).takeWhile isDig = d at *
  generalize (s.drop at_).dropWhile isDig = r at *
  have hl : (d ++ r).length = s.length - at_ := by rw [e]; simp
  simp at hl
  have hb : ∀ j, bt s (at_ + j) = bt (d ++ r) j := fun j => by rw [e, bt_drop]
  refine ⟨d.length, d, hda, rfl, by omega, fun j hj => ?_, fun hlt => ?_⟩
  · have h1 := hd d[j] (List.getElem_mem hj)
    unfold isDig at h1
    simp only [decide_eq_true_eq] at h1
    exact ⟨by rw [hb, bt_append_left _ _ _ hj, bt_get _ _ hj], h1⟩
  · rw [hb, bt_append_right _ _ _ (Nat.le_refl _), Nat.sub_self]
    cases r with
    | nil => simp at hl; omega
    | cons c r =>
      have := hr c r rfl
      unfold isDig at this
      simp only [decide_eq_false_iff_not] at this
      rw [bt_cons_zero]
      omega
set_option maxRecDepth 3000 in
set_option maxHeartbeats 2000000 in
theorem rdigits_at {w : World} {g : Nat} {s : List UInt8} {at_ groups many : Nat} {p : Nat → Bool} {refs bad : Bool} (h : RdAt w g s (at_ : Int) groups many p refs bad) (hl : s.length ≤ 1000) {D : Nat} {d : List UInt8} (hd : Digs s at_ D d) :
    Calls Tryd.prog 36 #[.pointer (some ⟨g, 0, none⟩)] w fun e w' => e = .returned (.tuple #[.int .i64 (numR d : Nat), .bool (!d.isEmpty)]) ∧ RdAt w' g s ((at_ + D : Nat) : Int) groups many p refs bad ∧ Chg (fun b => b = g) w w' := by
  have hD := hd.fits
  have HD := Lib.hid hd
  clear hd
  have H := Lib.hid h
  clear h
  go_enter Tryd.func36, Tryd.ntmps36
  go_wp2_with fail
  go_loopg [4, 5] D (fun q v4 v5 wr => ∃ j : Nat, j ≤ D ∧ q + j = D ∧ v4 = .int .i64 (numR (d.take j) : Nat) ∧ v5 = .bool (decide (0 < j)) ∧ RdAt wr g s ((at_ + j : Nat) : Int) groups many p refs bad ∧ Chg (fun b => b = g) w wr)
  case atStart => exact ⟨0, by omega, by omega, rfl, rfl, H.out, Chg.refl _ _⟩
  case round =>
    obtain ⟨j, hj, hq, rfl, rfl, hr, hc⟩ := hrel
    obtain ⟨c0, c1, -, -, -, -⟩ := hr.cells
    have ff := hr.free
    have ig := hr.inh
    have HR := Lib.hid hr
    have HC := Lib.hid hc
    have HQ := Lib.hid hq
    clear hr hc hq
    obtain ⟨A, hA⟩ : ∃ A, at_ + j = A := ⟨_, rfl⟩
    rw [hA] at HR c1
    by_cases hlt : j < D
    · obtain ⟨b1, b2, b3⟩ := HD.out.dig j (by rw [HD.out.len]; exact hlt)
      have hn := numR_next d j (by rw [HD.out.len]; exact hlt)
      rw [hA] at b1
      rw [← b1] at b2 b3 hn
      have a1 : (A : Int) < (s.length : Int) := by omega
      have a2 : A < s.length := by omega
      obtain ⟨B, hB⟩ : ∃ B : Nat, bt s A = 48 + B := ⟨bt s A - 48, by omega⟩
      have HN := Lib.hid hn
      have hk := numR_le1000 (d.take j)
      obtain ⟨K, hK⟩ : ∃ K, numR (d.take j) = K := ⟨_, rfl⟩
      rw [hK] at hk
      have HK := Lib.hid hK
      have hmin : min ((K : Int) * 10 + (B : Int)) 1000 = ((min (10 * K + B) 1000 : Nat) : Int) := by omega
      have x1 : (48 : Int) ≤ (bt s A : Int) := by omega
      have x2 : (bt s A : Int) ≤ 57 := by omega
      have x3 : (bt s A : Int) - 48 = (B : Int) := by omega
      have x4 : B ≤ 9 := by omega
      have HB := Lib.hid hB
      clear hn b1 hB
      rw [hK]
      clear hK
      go_upto_region 2 with fail
      go_quiet (fail)
      go_upto_region 3 with fail
      go_quiet (fail)
      go_wp2_with fail
      go_roundg (gk - 1)
      case measure => have := HQ.out; omega
      case rel => exact ⟨j + 1, by omega, by have := HQ.out; omega, by rw [HN.out, HK.out, show bt s A - 48 = B by have := HB.out; omega], by simp, by rw [show ((at_ + (j + 1) : Nat) : Int) = (A : Int) + 1 by omega]; exact (HR.out.grows (by repeat' first | exact Grows.refl _ | refine Grows.drewN ?_ _ | refine Grows.drew ?_)).set1 _, HC.out.trans ((Chg.of_grows (by repeat' first | exact Grows.refl _ | refine Grows.drewN ?_ _ | refine Grows.drew ?_)).trans (chg_cell _ _ _ _))⟩
    · have hjD : j = D := by omega
      subst hjD
      have hlen := HD.out.len
      have htk : d.take j = d := List.take_of_length_le (by omega)
      rw [htk]
      have he : decide (0 < j) = !d.isEmpty := by
        rw [← hlen]
        cases d with
        | nil => rfl
        | cons c d => simp
      rw [he]
      have HE := Lib.hid he
      clear he htk hlen
      have hcase : (¬ A < s.length) ∨ (A < s.length ∧ bt s A < 48) ∨ (A < s.length ∧ 57 < bt s A) := by
        by_cases hz : A < s.length
        · have := HD.out.stop (by omega)
          rw [hA] at this
          omega
        · exact .inl hz
      rcases hcase with hz | ⟨hz, x⟩ | ⟨hz, x⟩
      · have a1 : ¬(A : Int) < (s.length : Int) := by omega
        go_upto_region 2 with fail
        go_quiet (fail)
        go_wp2_with fail
        refine bodyPost_ret (v := .tuple #[.int .i64 (numR d : Nat), .bool (!d.isEmpty)]) (by simp [results, Tryd.results36, go_sem]) rfl ⟨rfl, HR.out.grows (by repeat' first | exact Grows.refl _ | refine Grows.drewN ?_ _ | refine Grows.drew ?_), HC.out.trans (Chg.of_grows (by repeat' first | exact Grows.refl _ | refine Grows.drewN ?_ _ | refine Grows.drew ?_))⟩
      · have a1 : (A : Int) < (s.length : Int) := by omega
        have x1 : ¬(48 : Int) ≤ (bt s A : Int) := by omega
        go_upto_region 2 with fail
        go_quiet (fail)
        go_wp2_with fail
        refine bodyPost_ret (v := .tuple #[.int .i64 (numR d : Nat), .bool (!d.isEmpty)]) (by simp [results, Tryd.results36, go_sem]) rfl ⟨rfl, HR.out.grows (by repeat' first | exact Grows.refl _ | refine Grows.drewN ?_ _ | refine Grows.drew ?_), HC.out.trans (Chg.of_grows (by repeat' first | exact Grows.refl _ | refine Grows.drewN ?_ _ | refine Grows.drew ?_))⟩
      · have a1 : (A : Int) < (s.length : Int) := by omega
        have x1 : (48 : Int) ≤ (bt s A : Int) := by omega
        have x2 : ¬(bt s A : Int) ≤ 57 := by omega
        go_upto_region 2 with fail
        go_quiet (fail)
        go_wp2_with fail
        refine bodyPost_ret (v := .tuple #[.int .i64 (numR d : Nat), .bool (!d.isEmpty)]) (by simp [results, Tryd.results36, go_sem]) rfl ⟨rfl, HR.out.grows (by repeat' first | exact Grows.refl _ | refine Grows.drewN ?_ _ | refine Grows.drew ?_), HC.out.trans (Chg.of_grows (by repeat' first | exact Grows.refl _ | refine Grows.drewN ?_ _ | refine Grows.drew ?_))⟩
end Go.Proofs.YtmobcljinfoacaaDoor

/-
  Patterns: the document's reader: how it stands; what a part's repetitions keep.
-/
namespace Go.Proofs.YtmobcljinfoacaaDoor
open Go.RowKit

/-- The reader, at a place of its text. -/
structure StAt (w : World) (g : Nat) (s : List UInt8) (at_ : Nat) (r : RdS) (bad : Bool) : Prop where
  rd : RdAt w g s (at_ : Int) (r.groups : Nat) (r.many : Nat) r.ended r.refs bad
  left : r.left = s.drop at_
  ale : at_ ≤ s.length
  many : r.many ≤ at_
  groups : r.groups ≤ r.many
/-- The reader, that found no pattern. -/
def Bad (w : World) (g : Nat) (s : List UInt8) : Prop := ∃ at_ r, StAt w g s at_ r true
section
variable {w w' : World} {g at_ : Nat} {s : List UInt8} {r : RdS} {bad : Bool}
set_option maxRecDepth 3000 in
theorem StAt.grows (h : StAt w g s at_ r bad) (hg : Grows w w') : StAt w' g s at_ r bad := ⟨h.rd.grows hg, h.left, h.ale, h.many, h.groups⟩
set_option maxRecDepth 3000 in
theorem StAt.inh (h : StAt w g s at_ r bad) : InHeap g w := h.rd.inh
set_option maxRecDepth 3000 in
theorem StAt.chg {q : Nat → Prop} (h : StAt w g s at_ r bad) (hc : Chg q w w') (hg : ¬ q g) : StAt w' g s at_ r bad :=
  ⟨(chg_blk hc h.inh hg).trans h.rd, h.left, h.ale, h.many, h.groups⟩
set_option maxRecDepth 3000 in
theorem StAt.node (h : StAt w g s at_ r bad) {k : Nat} (hk : 1 ≤ k) (hl : k ≤ r.left.length) (hr : RdAt w' g s ((at_ + k : Nat) : Int) (r.groups : Nat) ((r.many + 1 : Nat) : Int) r.ended r.refs bad) : StAt w' g s (at_ + k) (r.node k) bad := by
  have hle : r.left.length = s.length - at_ := by rw [h.left]; simp
  have h1 := h.many
  have h2 := h.groups
  have h3 := h.ale
  exact ⟨hr, by simp only [RdS.node]; rw [h.left, List.drop_drop], by omega, by simp only [RdS.node]; omega, by simp only [RdS.node]; omega⟩
set_option maxRecDepth 3000 in
/-- Some bytes are passed over. -/
theorem StAt.skip (h : StAt w g s at_ r bad) {k : Nat} (hl : k ≤ r.left.length) {l : List UInt8} (hd : r.left.drop k = l) (hr : RdAt w' g s ((at_ + k : Nat) : Int) (r.groups : Nat) (r.many : Nat) r.ended r.refs bad) : StAt w' g s (at_ + k) { r with left := l } bad := by
  have hle : r.left.length = s.length - at_ := by rw [h.left]; simp
  have h1 := h.many
  have h2 := h.groups
  have h3 := h.ale
  exact ⟨hr, by simp only []; rw [← hd, h.left, List.drop_drop], by omega, by simp only []; omega, h2⟩
set_option maxRecDepth 3000 in
theorem is_at (h : StAt w g s at_ r bad) (hl : s.length ≤ 1000) (t : List UInt8) (ht : t.length ≤ 10) (x : ByteArray) (hx : x = tx t) (b : Bool) (hb : ahead t r.left = b) :
    Calls Tryd.prog 22 #[.pointer (some ⟨g, 0, none⟩), .string x] w fun e w' => e = .returned (.bool b) ∧ Grows w w' := by
  have := is_any h.rd h.ale hl t ht x hx
  rw [← h.left, hb] at this
  exact this
set_option maxRecDepth 3000 in
theorem node_at (h : StAt w g s at_ r bad) (hl : s.length ≤ 1000) (k : Nat) (hk : 1 ≤ k) (hkl : k ≤ r.left.length) (kind byte : Int) (q : Nat → Bool) (n mn mx : Int) (a : Option Addr) (m c : Nat) :
    Calls Tryd.prog 35 #[.pointer (some ⟨g, 0, none⟩), .agg (ndA kind byte q n mn mx (.slice a m c)), .int .i64 k] w fun e w' => e = .returned (.agg (ndA kind byte q n mn mx (.slice a m c))) ∧ StAt w' g s (at_ + k) (r.node k) bad ∧ Chg (fun b => b = g) w w' := by
  have hle : r.left.length = s.length - at_ := by rw [h.left]; simp
  have h1 := h.many
  have h3 := h.ale
  exact (rnode_any h.rd (by omega) (by omega) k (by omega) kind byte q n mn mx a m c).mono fun e w' hp => ⟨hp.1, h.node hk hkl hp.2.1, hp.2.2⟩
set_option maxRecDepth 3000 in
theorem digits_at (h : StAt w g s at_ r bad) (hl : s.length ≤ 1000) (m : Nat) (b : Bool) (l : List UInt8) (hn : digitsR r.left = (m, b, l)) :
    Calls Tryd.prog 36 #[.pointer (some ⟨g, 0, none⟩)] w fun e w' => e = .returned (.tuple #[.int .i64 m, .bool b]) ∧ (∃ at2, StAt w' g s at2 { r with left := l } bad) ∧ Chg (fun b => b = g) w w' := by
  obtain ⟨D, d, hd⟩ := digs_of s at_ h.ale
  have hD := hd.eq
  rw [← h.left] at hD
  have e1 : numR (r.left.takeWhile isDig) = m := congrArg (fun x => x.1) hn
  have e2 : (!(r.left.takeWhile isDig).isEmpty) = b := congrArg (fun x => x.2.1) hn
  have e3 : r.left.dropWhile isDig = l := congrArg (fun x => x.2.2) hn
  rw [hD] at e1 e2
  have hle : r.left.length = s.length - at_ := by rw [h.left]; simp
  have hdr : r.left.drop D = l := by
    have := List.takeWhile_append_dropWhile (p := isDig) (l := r.left)
    rw [hD, e3] at this
    rw [← this, ← hd.len]
    simp
  have hf := hd.fits
  refine (rdigits_at h.rd hl hd).mono fun e w' hp => ⟨?_, ⟨at_ + D, h.skip (by omega) hdr hp.2.1⟩, hp.2.2⟩
  rw [hp.1, e1, e2]
end
def bldSlR (x : Array (Nat × Value)) : Sem Value := Instr.buildSlice 35 1 x
set_option maxRecDepth 3000 in
theorem bldSlR_eq (x : Array (Nat × Value)) : Instr.buildSlice 35 1 x = bldSlR x := rfl
set_option maxRecDepth 3000 in
theorem bldSlR_run (w : World) (k b : Int) (p : Nat → Bool) (n mn mx : Int) (a : Option Addr) (l d : Nat) : (bldSlR #[(0, .agg (ndA k b p n mn mx (.slice a l d)))]).run Tryd.prog w = .ok (.slice (some ⟨w.heap.size, 0, none⟩) 1 1) (w.alloc (.cells (ndA k b p n mn mx (.slice a l d)) 65)) := by kernel_rfl
end Go.Proofs.YtmobcljinfoacaaDoor
