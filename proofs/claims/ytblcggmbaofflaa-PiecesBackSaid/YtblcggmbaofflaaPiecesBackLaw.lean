/-
  Pieces: the law PiecesBack.
-/
import Derived.Test.YtblcggmbaofflaaPiecesAskLaw
namespace Go.Proofs.Ytblcggmbaofflaa
open Go.RowKit

theorem range_at (d : List (List UInt8)) (a e : Nat) : rangeV d ((a : Int) + 1) ((a : Int) + e) = (d.take (a + e)).drop a := by
  unfold rangeV
  rw [show ((a : Int) + e).toNat = a + e by omega, show (max ((a : Int) + 1) 1 - 1).toNat = a by omega]
theorem good_sub {d r : List (List UInt8)} (h : lcheckV d = 0) (hr : ∀ s ∈ r, s ∈ d) (hl : r.length ≤ d.length) : lcheckV r = 0 := by
  rw [lcheckV_good] at h ⊢
  exact ⟨by omega, fun s hs => h.2 s (hr s hs)⟩
/-- What was taken away, laid in its place again. -/
theorem splice_back (d ins : List (List UInt8)) (a e : Nat) (hd : lcheckV d = 0) (h : a + e ≤ d.length) :
    spliceV (d.take a ++ (ins ++ d.drop (a + e))) (a : Int) (ins.length : Int) ((d.take (a + e)).drop a) = (d, 0) := by
  have hg := (lcheckV_good.1 hd).1
  have hR : lcheckV ((d.take (a + e)).drop a) = 0 := good_sub hd (fun s hs => List.mem_of_mem_take (List.mem_of_mem_drop hs)) (by simp; omega)
  have hl : (d.take a ++ (ins ++ d.drop (a + e))).length = a + ins.length + (d.length - (a + e)) := by simp; omega
  have hl2 : ((d.take (a + e)).drop a).length = e := by simp; omega
  unfold spliceV
  rw [if_neg, if_neg]
  · congr 1
    rw [Int.toNat_natCast, Int.toNat_natCast]
    have e1 : (d.take a ++ (ins ++ d.drop (a + e))).take a = d.take a := by
      rw [List.take_append_of_le_length (by simp; omega), List.take_take, Nat.min_self]
    have e2 : (d.take a ++ (ins ++ d.drop (a + e))).drop (a + ins.length) = d.drop (a + e) := by
      rw [List.drop_append, List.drop_eq_nil_of_le (by simp; omega), List.nil_append, List.length_take, Nat.min_eq_left (by omega), List.drop_append, List.drop_eq_nil_of_le (by omega), List.nil_append]
      rw [show a + ins.length - a - ins.length = 0 by omega, List.drop_zero]
    rw [e1, e2, ← List.append_assoc]
    have e3 : d.take a ++ (d.take (a + e)).drop a = d.take (a + e) := by
      have := List.take_append_drop a (d.take (a + e))
      rw [List.take_take, Nat.min_eq_left (by omega)] at this
      exact this
    rw [e3, List.take_append_drop]
  · rw [hl, hl2]; rintro (h1 | h1)
    · exact h1 hR
    · omega
  · rw [hl]; rintro (h1 | h1 | h1 | h1 | h1)
    · omega
    · omega
    · omega
    · omega
    · rw [hR] at h1; cases h1
theorem range_ins (d ins : List (List UInt8)) (a e : Nat) (h : a + e ≤ d.length) : rangeV (d.take a ++ (ins ++ d.drop (a + e))) ((a : Int) + 1) ((a : Int) + ins.length) = ins := by
  rw [range_at, List.take_append, List.take_of_length_le (by simp; omega), List.drop_append, List.drop_eq_nil_of_le (by simp; omega), List.nil_append, List.length_take, Nat.min_eq_left (by omega), Nat.sub_self, List.drop_zero, show a + ins.length - a = ins.length by omega, List.take_append_of_le_length (Nat.le_refl _), List.take_of_length_le (Nat.le_refl _)]

theorem grows_renum' (w : World) (m : More) (n : Nat) : Grows (more w m) (more w ⟨m.bs, n⟩) := ⟨⟨#[], n⟩, by simp [more]⟩
theorem much_one (c : Cut) (g cap : Nat) (w : World) (ty : TypeId) (hg : g = w.heap.size) (hc : c.ok w) :
    Calls Try.prog 11 #[.slice (some ⟨g, 0, none⟩) 1 cap] (w.alloc (.cells #[.int .i64 c.at_, .int .i64 c.del, .slice c.A c.ins.length c.cap] ty)) (MuchPost [c] (w.alloc (.cells #[.int .i64 c.at_, .int .i64 c.del, .slice c.A c.ins.length c.cap] ty))) := by
  refine much_any (some ⟨g, 0, none⟩) cap [c] _ ⟨?_, by simp, fun s hs => ?_⟩
  · subst hg
    refine ⟨by simp [Cut.cells], fun _ => ⟨_, 0, rfl, by simp, fun j u hu => ?_⟩⟩
    simp only [List.flatMap_cons, List.flatMap_nil, List.append_nil, Cut.cells] at hu
    match j, hu with
    | 0, hu => simp at hu; subst hu; simp [go_sem]
    | 1, hu => simp at hu; subst hu; simp [go_sem]
    | 2, hu => simp at hu; subst hu; simp [go_sem]
    | k + 3, hu => simp at hu
  · obtain rfl : s = c := by simpa using hs
    exact hc.grows ((Grows.refl _).alloc _)
set_option maxRecDepth 100000 in
set_option maxHeartbeats 4000000 in
theorem piecesBack_law (Ad : Option Addr) (cd : Nat) (d : List (List UInt8)) (c : Cut) (w : World) (hd : Came w Ad cd d) (hc : c.ok w) :
    Calls Try.prog 7 #[.slice Ad d.length cd, .agg c.cells.toArray] w fun e w' => e = .returned (.bool true) ∧ Grows w w' := by
  obtain ⟨at_, del, I, ci, ins⟩ := c
  have hdl := hd.len
  obtain ⟨ha, hde, hI⟩ := hc
  simp only [Cut.cells] at *
  go_enter Try.func7, Try.ntmps7
  go_wp2_with fail
  (with_reducible refine (great_any Ad cd d 500 20000 _ (hd.rd.grows ((Grows.refl _).alloc _)) hdl hd.each (by decide) (by decide) (by decide) (by decide)).mono ?_)
  rintro e w1 ⟨ga, rfl, hga, rfl⟩
  cases ga with
  | true =>
    go_wp2_with fail
    go_ret
    exact ⟨rfl, (Grows.refl _).alloc _⟩
  | false =>
    obtain ⟨hga1, hga2⟩ := hga rfl
    clear hga
    go_wp2_with fail
    (with_reducible refine (much_one ⟨at_, del, I, ci, ins⟩ _ _ _ _ (by simp [go_sem]) ⟨ha, hde, hI.grows ((Grows.refl _).alloc _)⟩).mono ?_)
    rintro e w1 ⟨gm, rfl, hgm, rfl⟩
    simp only []
    cases gm with
    | true =>
      go_wp2_with fail
      go_ret
      exact ⟨rfl, (by repeat' first | exact Grows.refl _ | refine Grows.more ?_ _ | refine Grows.alloc ?_ _ | refine Grows.drew ?_)⟩
    | false =>
      have hil := ((hgm rfl).2.1 ⟨at_, del, I, ci, ins⟩ (by simp)).1
      simp only [] at hil
      clear hgm
      have c0 : ((w.alloc (.cells #[.int .i64 at_, .int .i64 del, .slice I ins.length ci] 34)).alloc (.cells #[.int .i64 at_, .int .i64 del, .slice I ins.length ci] 34)).cell? ⟨w.heap.size, 0, none⟩ = some (.int .i64 at_) := by simp [go_sem]
      have c1 : ((w.alloc (.cells #[.int .i64 at_, .int .i64 del, .slice I ins.length ci] 34)).alloc (.cells #[.int .i64 at_, .int .i64 del, .slice I ins.length ci] 34)).cell? ⟨w.heap.size, 1, none⟩ = some (.int .i64 del) := by simp [go_sem]
      have c2 : ((w.alloc (.cells #[.int .i64 at_, .int .i64 del, .slice I ins.length ci] 34)).alloc (.cells #[.int .i64 at_, .int .i64 del, .slice I ins.length ci] 34)).cell? ⟨w.heap.size, 2, none⟩ = some (.slice I ins.length ci) := by simp [go_sem]
      have hgX : Grows w ((w.alloc (.cells #[.int .i64 at_, .int .i64 del, .slice I ins.length ci] 34)).alloc (.cells #[.int .i64 at_, .int .i64 del, .slice I ins.length ci] 34)) := (by repeat' first | exact Grows.refl _ | refine Grows.more ?_ _ | refine Grows.alloc ?_ _ | refine Grows.drew ?_)
      have hXs : InHeap w.heap.size ((w.alloc (.cells #[.int .i64 at_, .int .i64 del, .slice I ins.length ci] 34)).alloc (.cells #[.int .i64 at_, .int .i64 del, .slice I ins.length ci] 34)) := by simp [go_sem]
      generalize (w.alloc (.cells #[.int .i64 at_, .int .i64 del, .slice I ins.length ci] 34)).alloc (.cells #[.int .i64 at_, .int .i64 del, .slice I ins.length ci] 34) = X at c0 c1 c2 hgX hXs ⊢
      obtain ⟨g0, hg0⟩ : ∃ g0, g0 = w.heap.size := ⟨_, rfl⟩
      rw [← hg0] at c0 c1 c2 hXs ⊢
      have HDX := Lib.hid (hd.grows hgX)
      have HIX := Lib.hid (hI.grows hgX)
      have HGX := Lib.hid hgX
      have HG0 := Lib.hid hg0
      have dl := hd.len
      clear hd hI hgX hg0
      by_cases hok : lcheckV d = 0
      · go_wp2_with fail
        (with_reducible refine (new_ptr Ad _ cd d _ rfl HDX.out.rd (by omega) HDX.out.nil HDX.out.each hok).mono ?_)
        rintro e w1 ⟨T, rfl, hT, hTL, ⟨m0, rfl⟩, -, -⟩
        have HT := Lib.hid hT
        have HTL := Lib.hid hTL
        clear hT hTL
        go_wp2_with fail
        (with_reducible refine (splice_ptr T _ HT.out at_ del I _ ci ins rfl (HIX.out.rd.grows (by repeat' first | exact Grows.refl _ | refine Grows.more ?_ _ | refine Grows.alloc ?_ _ | refine Grows.drew ?_)) HIX.out.nil (by omega) HIX.out.each ha hde).mono ?_)
        rintro e w2 ⟨v, rfl, hno, hyes, m1, rfl⟩
        rw [HTL.out] at hno hyes ⊢
        by_cases hz : (spliceV d at_ del ins).2 = 0
        · obtain ⟨U, rfl, hU, hUL, -, -⟩ := hyes hz
          obtain ⟨k1, k2, k3, k4, k5, -⟩ := spliceV_good hok hz
          obtain ⟨a, rfl⟩ : ∃ a : Nat, at_ = a := ⟨at_.toNat, by omega⟩
          obtain ⟨n, rfl⟩ : ∃ n : Nat, del = n := ⟨del.toNat, by omega⟩
          have hdl2 := (lcheckV_good.1 hok).1
          have hUL2 : U.L = d.take a ++ (ins ++ d.drop (a + n)) := by rw [hUL, k5]; rfl
          have hbk := splice_back d ins a n hok (by omega)
          have hri := range_ins d ins a n (by omega)
          have hra := range_at d a n
          rw [hz]
          have HU := Lib.hid hU
          have HUL := Lib.hid hUL2
          have HBK := Lib.hid hbk
          have HRI := Lib.hid hri
          have HRA := Lib.hid hra
          have hRl : ((d.take (a + n)).drop a).length ≤ 2000 := by simp; omega
          have hRe : ∀ s ∈ (d.take (a + n)).drop a, s.length ≤ 9223372036854775807 := fun s hs => by
            have := ((lcheckV_good.1 hok).2 s (List.mem_of_mem_take (List.mem_of_mem_drop hs))).2; omega
          have HRE := Lib.hid hRe
          have hw1 : IntKind.i64.wrap ((a : Int) + 1) = (a : Int) + 1 := by rw [IntWalk.i64_left]; unfold wrap64; omega
          have hw2 : IntKind.i64.wrap ((a : Int) + (n : Int)) = (a : Int) + n := by rw [IntWalk.i64_left]; unfold wrap64; omega
          have hw3 : IntKind.i64.wrap ((a : Int) + (ins.length : Int)) = (a : Int) + ins.length := by rw [IntWalk.i64_left]; unfold wrap64; omega
          have i1 : I64 ((a : Int) + 1) := by unfold I64; omega
          have i2 : I64 ((a : Int) + (n : Int)) := by unfold I64; omega
          have i3 : I64 ((a : Int) + (ins.length : Int)) := by unfold I64; omega
          have i4 : I64 (ins.length : Int) := by unfold I64; omega
          have i5 : I64 (a : Int) := by unfold I64; omega
          clear hno hyes hUL hz k1 k2 k3 k5 hbk hri hra hRe hU hUL2
          generalize hR : (d.take (a + n)).drop a = R at *
          clear hR
          go_upto_region 9 with fail
          go_region_held3 (fun w' => w'.cell? ⟨g0, 0, none⟩ = some (.int .i64 (a : Int)) ∧ w'.cell? ⟨g0, 1, none⟩ = some (.int .i64 (n : Int)) ∧ w'.cell? ⟨g0, 2, none⟩ = some (.slice I ins.length ci))
            (first | (simp [go_sem, hXs, c0, c1, c2]; done))
            (first
              | (go_at_call 26; (with_reducible refine (lines_ptr T _ _ _ (HT.out.grows (by repeat' first | exact Grows.refl _ | refine Grows.more ?_ _ | refine Grows.alloc ?_ _ | refine Grows.drew ?_)) i1 i2).mono ?_); rw [HTL.out, HRA.out]; rintro e w5 ⟨vr, rfl, hown, m5, rfl⟩; obtain ⟨B, cb, rfl, hb1, hb2, hb3, hb4, -⟩ := own_row hown; clear hown)
              | (go_at_call 17; (with_reducible refine (splice_ptr U _ (HU.out.grows (by repeat' first | exact Grows.refl _ | exact grows_renum' _ _ _ | refine Grows.more ?_ _ | refine Grows.alloc ?_ _ | refine Grows.drew ?_)) (a : Int) (ins.length : Int) B _ cb R rfl hb3 hb4 (by omega) HRE.out i5 i4).mono ?_); rw [HUL.out, HBK.out]; rintro e w6 ⟨v6, rfl, -, hyes6, m6, rfl⟩; obtain ⟨V, rfl, hV, hVL, -, -⟩ := hyes6 rfl; clear hyes6))
          have hgW : Grows X (more (more (more (more X m0) ⟨m1.bs, m1.n + 1⟩) m5) m6) := (by repeat' first | exact Grows.refl _ | refine Grows.more ?_ _ | refine Grows.alloc ?_ _ | refine Grows.drew ?_)
          have hgU : Grows (more (more X m0) m1) (more (more (more (more X m0) ⟨m1.bs, m1.n + 1⟩) m5) m6) := (by repeat' first | exact Grows.refl _ | exact grows_renum' _ _ _ | refine Grows.more ?_ _ | refine Grows.alloc ?_ _ | refine Grows.drew ?_)
          have HV : Hid (V.ok (more (more (more (more X m0) ⟨m1.bs, m1.n + 1⟩) m5) m6)) := Lib.hid hV
          have HVL := Lib.hid hVL
          have HUW := Lib.hid (HU.out.grows hgU)
          have HDW := Lib.hid (HDX.out.grows hgW)
          have HIW := Lib.hid (HIX.out.grows hgW)
          have HGW := Lib.hid (HGX.out.trans hgW)
          have d0 := Grows.cell hgW hXs c0
          have d1 := Grows.cell hgW hXs c1
          have d2 := Grows.cell hgW hXs c2
          have hXW : InHeap g0 (more (more (more (more X m0) ⟨m1.bs, m1.n + 1⟩) m5) m6) := Nat.lt_of_lt_of_le hXs hgW.below.size
          clear hgW hgU hV hVL c0 c1 c2 hXs hb3 hb1 hb2 hb4
          generalize more (more (more (more X m0) ⟨m1.bs, m1.n + 1⟩) m5) m6 = W at HV HUW HDW HIW HGW d0 d1 d2 hXW ⊢
          go_upto_region 10 with fail
          go_region_held3 (fun w' => w'.cell? ⟨g0, 0, none⟩ = some (.int .i64 (a : Int)) ∧ w'.cell? ⟨g0, 1, none⟩ = some (.int .i64 (n : Int)) ∧ w'.cell? ⟨g0, 2, none⟩ = some (.slice I ins.length ci))
            (first | (simp [go_sem, hXW, d0, d1, d2]; done))
            (first
              | (go_at_call 20; (with_reducible refine (all_ptr V _ (HV.out.grows (by repeat' first | exact Grows.refl _ | refine Grows.more ?_ _ | refine Grows.alloc ?_ _ | refine Grows.drew ?_))).mono ?_); rw [HVL.out]; rintro e w7 ⟨v7, rfl, hown7, m7, rfl⟩; obtain ⟨A7, c7, rfl, -, -, hA7, -⟩ := own_row hown7; clear hown7; replace hA7 : Rd (more W m7) 1 A7 _ _ := hA7)
              | (go_at_call 19; (with_reducible refine (lawSame_at A7 Ad c7 cd _ _ d d _ (hA7.grows (by repeat' first | exact Grows.refl _ | refine Grows.more ?_ _ | refine Grows.alloc ?_ _ | refine Grows.drew ?_)) (HDW.out.rd.grows (by repeat' first | exact Grows.refl _ | refine Grows.more ?_ _ | refine Grows.alloc ?_ _ | refine Grows.drew ?_)) (by omega) (by omega) rfl rfl).mono ?_); rw [sameL_self]; rintro e w8 ⟨rfl, m8, rfl⟩)
              | (go_at_call 26; (with_reducible refine (lines_ptr U _ _ _ (HUW.out.grows (by repeat' first | exact Grows.refl _ | refine Grows.more ?_ _ | refine Grows.alloc ?_ _ | refine Grows.drew ?_)) i1 i3).mono ?_); rw [HUL.out, HRI.out]; rintro e w9 ⟨v9, rfl, hown9, m9, rfl⟩; obtain ⟨A9, c9, rfl, -, -, hA9, -⟩ := own_row hown9; clear hown9)
              | (go_at_call 19; (with_reducible refine (lawSame_at A9 I c9 ci _ _ ins ins _ (hA9.grows (by repeat' first | exact Grows.refl _ | refine Grows.more ?_ _ | refine Grows.alloc ?_ _ | refine Grows.drew ?_)) (HIW.out.rd.grows (by repeat' first | exact Grows.refl _ | refine Grows.more ?_ _ | refine Grows.alloc ?_ _ | refine Grows.drew ?_)) (by omega) (by omega) rfl rfl).mono ?_); rw [sameL_self]; rintro e w10 ⟨rfl, m10, rfl⟩)
              | (go_at_call 16; (with_reducible refine (does_any _).mono ?_); rintro e w11 ⟨rfl, m11, rfl⟩))
          go_wp2_with fail
          go_ret
          refine ⟨rfl, HGW.out.trans ?_⟩
          repeat' first | exact Grows.refl _ | refine Grows.more ?_ _ | refine Grows.alloc ?_ _ | refine Grows.drew ?_
        · have hz' : ((spliceV d at_ del ins).2 != 0) = true := by simpa using hz
          clear hno hyes hz
          go_wp2_with fail
          (with_reducible refine (does_any _).mono ?_)
          rintro e w1 ⟨rfl, m4, rfl⟩
          go_wp2_with fail
          go_ret
          exact ⟨rfl, ((HGX.out.more _).more _).more _⟩
      · go_wp2_with fail
        (with_reducible refine (new_no Ad cd d _ HDX.out.rd (by omega) HDX.out.each hok).mono ?_)
        rintro e w1 ⟨rfl, rfl⟩
        go_wp2_with fail
        (with_reducible refine (does_any _).mono ?_)
        rintro e w1 ⟨rfl, m4, rfl⟩
        go_wp2_with fail
        go_ret
        exact ⟨rfl, HGX.out.more _⟩
end Go.Proofs.Ytblcggmbaofflaa
