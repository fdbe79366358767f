/-
  Matches: what is asked of a place, walked.
-/
import Derived.Test.YtnjagecmhdagkaaDoorPk31
set_option linter.unusedSimpArgs false
set_option linter.unusedVariables false
namespace Go.Proofs.YtnjagecmhdagkaaDoor
open Go.RowKit

set_option maxRecDepth 3000 in
/-- The slice of numbered nodes behind some of them. -/
theorem NfAt.drop {ok : Nat → Prop} {w : World} {b o cap m : Nat} {a c : Fr} (h : NfAt ok w (some ⟨b, o, none⟩) cap (a.app c) m) (A : Option Addr) (hA : 0 < c.len → A = some ⟨b, o + a.len * 264, none⟩) (hne : A ≠ none) : NfAt ok w A (cap - a.len) c (m + a.size) := by
  obtain ⟨xs, h1, h2⟩ := h
  have hsplit : ∀ {a : Fr} {m : Nat} {xs : List Value}, NfRow ok w (a.app c) m xs → ∃ ys zs, xs = ys ++ zs ∧ ys.length = a.len * 264 ∧ NfRow ok w c (m + a.size) zs := by
    intro a
    induction a with
    | nil => intro m xs h; exact ⟨[], xs, rfl, by simp [Fr.len], h⟩
    | cons x k r _ ihr =>
      rintro m xs ⟨KA, kn, kc, K, capk, us, zs, e, h1, h2, h3⟩
      obtain ⟨ys, zs2, e2, hl, h4⟩ := ihr h3
      refine ⟨(nmC x (.slice KA kn kc) m (.slice K k.len capk)).toList ++ ys, zs2, by rw [e, e2, List.append_assoc], ?_, ?_⟩
      · rw [List.length_append, Array.length_toList, nmC_size, hl, Fr.len]; omega
      · rw [show m + (Fr.cons x k r).size = m + 1 + k.size + r.size by simp [Fr.size]; omega]; exact h4
  obtain ⟨ys, zs, e, hl, h3⟩ := hsplit h2
  have hlen := h1.rd.1
  have hle := h1.le
  rw [Fr.len_app] at hlen hle
  refine ⟨zs, ⟨⟨?_, fun hc => ?_⟩, fun e => absurd e hne, by omega, by have := h1.cap63; omega, fun hc a2 e2 => ?_⟩, h3⟩
  · rw [e, List.length_append, hl] at hlen
    have : (a.len + c.len) * 264 = a.len * 264 + c.len * 264 := Nat.add_mul _ _ _
    omega
  · obtain ⟨b', o', e2, hb, hcell⟩ := h1.rd.2 (by rw [Fr.len_app]; omega)
    cases e2
    refine ⟨b, o + a.len * 264, hA hc, hb, fun j u hu => ?_⟩
    rw [Nat.add_assoc]
    refine hcell (a.len * 264 + j) u ?_
    rw [e, List.getElem?_append_right (by omega), hl, Nat.add_sub_cancel_left]
    exact hu
  · have := hA hc
    rw [this] at e2
    cases e2
    exact h1.ok (by rw [Fr.len_app]; omega) ⟨b, o, none⟩ rfl
section
variable {s : List UInt8} {Nm : Nat → NdV → Fr → Prop} {tb r lo : Nat}
set_option maxRecDepth 3000 in
theorem row_drew {f : Fr} (h : RowC s Nm tb r lo f) (m : Nat) (A : Option Addr) (cap a : Nat) {q : Nat → Prop} {w w0 : World} (hall : AllNum Nm f m) (hnf : NfAt (fun b => b < lo) w A cap f m) (ht : TbAt s Nm tb r lo q w) (hq : ∀ b, w.heap.size ≤ b → q b) (ha : a ≤ s.length) (hg : Grows w w0) :
    Calls Tryd.prog 33 #[.pointer (some ⟨tb, 0, none⟩), .slice A f.len cap, .int .i64 a] w0 fun e w' => ∃ b, e = .returned (plV b (wds s.length)) ∧ PlAt w' b (wds s.length) (endsF s f a) ∧ w.heap.size ≤ b ∧ TbAt s Nm tb r lo q w' ∧ Chg (fun x => x = r) w w' :=
  (h m A cap a q w0 hall (hnf.chg (Chg.of_grows (p := fun _ => False) hg) fun _ _ _ h => h) (ht.grows hg) (fun b hb => hq b (Nat.le_trans hg.below.size hb)) ha).mono fun e w' ⟨b, h1, h2, h3, h4, h5⟩ => ⟨b, h1, h2, Nat.le_trans hg.below.size h3, h4, (Chg.of_grows hg).trans h5⟩
set_option maxRecDepth 3000 in
theorem mhas_drew {w w0 : World} {b W : Nat} {P : Pl} (h : PlAt w b W P) (a : Nat) (ha : a < 64 * W) (hW : W ≤ 1000) (hg : Grows w w0) :
    Calls Tryd.prog 53 #[plV b W, .int .i64 a] w0 fun e w' => e = .returned (.bool (P a)) ∧ w' = w0 := has_any (h.grows hg) a ha hW
set_option maxRecDepth 3000 in
theorem enters_give1 : Enters 52 := enters_of Tryd.func52 (by kernel_rfl) rfl
set_option maxRecDepth 3000 in
theorem enters_within1 : Enters 67 := enters_of Tryd.func67 (by kernel_rfl) rfl
attribute [local go_sem ↓] zeroNm ldNm_eq stNm_eq
attribute [local go_sem] loadNm loadNm_if storeNm storeNm_if nm_one_nd nm_size_nd over_nm span_nm
set_option maxRecDepth 100000 in
set_option maxHeartbeats 4000000 in
theorem give1_any (hs : s.length ≤ 60000) (hN : NumOk Nm) {f a1 k rest : Fr} {x : NdV} (m b0 o0 cap i e p : Nat) (hf : f = a1.app (.cons x k rest)) (hi : a1.len = i) (q : Nat → Prop) (w : World) {bT bL bI bE : Nat}
    (hT : blk w bT = #[.pointer (some ⟨tb, 0, none⟩)]) (hL : blk w bL = #[.slice (some ⟨b0, o0, none⟩) f.len cap]) (hI : blk w bI = #[.int .i64 i]) (hE : blk w bE = #[.int .i64 e])
    (hall : AllNum Nm f m) (hnf : NfAt (fun b => b < lo) w (some ⟨b0, o0, none⟩) cap f m) (ht : TbAt s Nm tb r lo q w) (hq : ∀ b, w.heap.size ≤ b → q b) (hp : p ≤ s.length) (he : e ≤ s.length) (hEr : bE ≠ r) :
    Calls Tryd.prog 52 #[.int .i64 p, .pointer (some ⟨bT, 0, none⟩), .pointer (some ⟨bL, 0, none⟩), .pointer (some ⟨bI, 0, none⟩), .pointer (some ⟨bE, 0, none⟩)] w fun e' w' => e' = .returned (.bool (endsF s rest p e)) ∧ TbAt s Nm tb r lo q w' ∧ Chg (fun x => x = r) w w' := by
  have hW := wds_le hs
  have dT : w.cell? ⟨bT, 0, none⟩ = some (.pointer (some ⟨tb, 0, none⟩)) := Blk.cell hT (by simp) 0
  have dL : w.cell? ⟨bL, 0, none⟩ = some (.slice (some ⟨b0, o0, none⟩) f.len cap) := Blk.cell hL (by simp) 0
  have dI : w.cell? ⟨bI, 0, none⟩ = some (.int .i64 i) := Blk.cell hI (by simp) 0
  have dE : w.cell? ⟨bE, 0, none⟩ = some (.int .i64 e) := Blk.cell hE (by simp) 0
  have iE : InHeap bE w := Blk.inHeap hE (by simp)
  have iT : InHeap bT w := Blk.inHeap hT (by simp)
  have iL : InHeap bL w := Blk.inHeap hL (by simp)
  have iI : InHeap bI w := Blk.inHeap hI (by simp)
  have hlen : f.len = i + 1 + rest.len := by rw [hf, Fr.len_app, hi]; simp [Fr.len]; omega
  have hcap : f.len ≤ cap ∧ cap ≤ 9223372036854775807 := by
    obtain ⟨xs, h1, _⟩ := hnf
    exact ⟨h1.le, h1.cap63⟩
  have H := Lib.hid ht
  have HQ := Lib.hid hq
  have HE := Lib.hid hE
  obtain ⟨FL, hFL⟩ : ∃ z, f.len = z := ⟨_, rfl⟩
  rw [hFL] at hlen hcap dL
  obtain ⟨j, hj⟩ : ∃ z, i + 1 = z := ⟨_, rfl⟩
  have hjl : j ≤ FL := by omega
  have hwr : IntKind.i64.wrap ((i : Int) + 1) = (j : Int) := by rw [wrap_small (by omega) (by omega)]; omega
  have hfj : FL - j = rest.len := by omega
  obtain ⟨A3, hA3⟩ : ∃ z, (if cap = j then (some ⟨b0, o0, none⟩ : Option Addr) else some ⟨b0, o0 + j * 264, none⟩) = z := ⟨_, rfl⟩
  have hdrop : NfAt (fun b => b < lo) w A3 (cap - j) rest (m + a1.size + 1 + k.size) := by
    have e2 : f = (a1.app (Fr.one x k)).app rest := by rw [hf, Fr.app_assoc]; rfl
    rw [e2] at hnf
    have hl2 : (a1.app (Fr.one x k)).len = j := by rw [Fr.len_app, hi]; exact hj
    have := hnf.drop A3 (fun hr => by rw [hl2, ← hA3, if_neg (by omega)]) (by rw [← hA3]; split <;> simp)
    rw [hl2] at this
    rw [show m + a1.size + 1 + k.size = m + (a1.app (Fr.one x k)).size by rw [Fr.size_app]; simp [Fr.one, Fr.size]; omega]
    exact this
  have hall2 : AllNum Nm rest (m + a1.size + 1 + k.size) := by
    rw [hf, AllNum.app] at hall
    exact hall.2.2.2
  have HD := Lib.hid hdrop
  have HA2 := Lib.hid hall2
  have HJ := Lib.hid (And.intro hj hlen)
  clear ht hq hT hL hI hE hcap hj hlen hdrop hall2 hnf hall hf hi hFL
  go_enter Tryd.func52, Tryd.ntmps52
  go_upto_region 1 with fail
  go_region_law (first
    | (go_simp; (with_reducible refine Calls.mono (row_drew (mrow_ok hs hN rest) _ A3 (cap - j) p HA2.out HD.out H.out HQ.out hp (by repeat' first | exact Grows.refl _ | refine Grows.drewN ?_ _ | refine Grows.drew ?_)) ?_); rintro e' w2 ⟨b2, rfl, hB2, hbl2, hT2, hC2⟩; have dE2 : w2.cell? ⟨bE, 0, none⟩ = some (.int .i64 e) := Blk.cell ((chg_blk hC2 iE hEr).trans HE.out) (by simp) 0; have B2 := Lib.hid hB2; have T2 := Lib.hid hT2; have C2 := Lib.hid hC2; clear hB2 hT2 hC2; dsimp only)
    | (go_simp; (with_reducible refine Calls.mono (mhas_drew B2.out e (wds_lt he) hW (by repeat' first | exact Grows.refl _ | refine Grows.drewN ?_ _ | refine Grows.drew ?_)) ?_); rintro e' w3 ⟨rfl, hw3⟩; subst hw3; dsimp only))
  all_goals
    go_wp2_with fail
    go_ret
    exact ⟨rfl, T2.out.grows (by repeat' first | exact Grows.refl _ | refine Grows.drewN ?_ _ | refine Grows.drew ?_), C2.out.trans (Chg.of_grows (by repeat' first | exact Grows.refl _ | refine Grows.drewN ?_ _ | refine Grows.drew ?_))⟩
set_option maxRecDepth 100000 in
set_option maxHeartbeats 4000000 in
theorem within1_any (hs : s.length ≤ 60000) (hN : NumOk Nm) {x : NdV} {k : Fr} (d e p : Nat) (id : Nat) (K : Option Addr) (kn kc : Nat) (A : Option Addr) (cap : Nat) (q : Nat → Prop) (w : World) {bT bX bD bE : Nat}
    (hT : blk w bT = #[.pointer (some ⟨tb, 0, none⟩)]) (hX : blk w bX = nmC x (.slice K kn kc) id (.slice A k.len cap)) (hD : blk w bD = #[.int .i64 d]) (hE : blk w bE = #[.int .i64 e])
    (hid : Nm id x k) (hall : AllNum Nm k (id + 1)) (hnf : NfAt (fun b => b < lo) w A cap k (id + 1)) (ht : TbAt s Nm tb r lo q w) (hq : ∀ b, w.heap.size ≤ b → q b) (hp : p ≤ s.length) (he : e ≤ s.length) (hd : d ≤ 90000) (hEr : bE ≠ r) :
    Calls Tryd.prog 67 #[.int .i64 p, .pointer (some ⟨bT, 0, none⟩), .pointer (some ⟨bX, 0, none⟩), .pointer (some ⟨bD, 0, none⟩), .pointer (some ⟨bE, 0, none⟩)] w fun e' w' => e' = .returned (.bool (turnsS s.length x (endsF s k) p (d + 1) e)) ∧ TbAt s Nm tb r lo q w' ∧ Chg (fun x => x = r) w w' := by
  have hW := wds_le hs
  have hturn : TurnsC s Nm tb r lo x k p (d + 1) := mturns_ok hs hN (hN.ok id x k hid).1 (mrow_ok hs hN k) p (d + 1) hp (by omega)
  have dT : w.cell? ⟨bT, 0, none⟩ = some (.pointer (some ⟨tb, 0, none⟩)) := Blk.cell hT (by simp) 0
  have dD : w.cell? ⟨bD, 0, none⟩ = some (.int .i64 d) := Blk.cell hD (by simp) 0
  have dE : w.cell? ⟨bE, 0, none⟩ = some (.int .i64 e) := Blk.cell hE (by simp) 0
  have iE : InHeap bE w := Blk.inHeap hE (by simp)
  have iT : InHeap bT w := Blk.inHeap hT (by simp)
  have iX : InHeap bX w := Blk.inHeap hX (by rw [nmC_size]; decide)
  have iD : InHeap bD w := Blk.inHeap hD (by simp)
  have hwr : IntKind.i64.wrap ((d : Int) + 1) = (d : Int) + 1 := wrap_small (by omega) (by omega)
  have H := Lib.hid ht
  have HQ := Lib.hid hq
  have HE := Lib.hid hE
  have HID := Lib.hid hid
  have HALL := Lib.hid hall
  have HNF := Lib.hid hnf
  have HTU := Lib.hid hturn
  clear ht hq hT hD hE hid hall hnf hturn
  go_enter Tryd.func67, Tryd.ntmps67
  go_upto_region 1 with fail
  go_region_law (first
    | (go_simp; (with_reducible refine Calls.mono (turn_next HTU.out id K kn kc A cap HID.out HALL.out HNF.out H.out HQ.out (by repeat' first | exact Grows.refl _ | refine Grows.drewN ?_ _ | refine Grows.drew ?_)) ?_); rintro e' w2 ⟨b2, rfl, hB2, hqb2, hbr2, hbt2, hT2, hC2⟩; have dE2 : w2.cell? ⟨bE, 0, none⟩ = some (.int .i64 e) := Blk.cell ((chg_blk hC2 iE hEr).trans HE.out) (by simp) 0; have B2 := Lib.hid hB2; have T2 := Lib.hid hT2; have C2 := Lib.hid hC2; clear hB2 hT2 hC2 hqb2; dsimp only)
    | (go_simp; (with_reducible refine Calls.mono (mhas_drew B2.out e (wds_lt he) hW (by repeat' first | exact Grows.refl _ | refine Grows.drewN ?_ _ | refine Grows.drew ?_)) ?_); rintro e' w3 ⟨rfl, hw3⟩; subst hw3; dsimp only))
  all_goals
    go_wp2_with fail
    go_ret
    exact ⟨rfl, T2.out.grows (by repeat' first | exact Grows.refl _ | refine Grows.drewN ?_ _ | refine Grows.drew ?_), C2.out.trans (Chg.of_grows (by repeat' first | exact Grows.refl _ | refine Grows.drewN ?_ _ | refine Grows.drew ?_))⟩
end
end Go.Proofs.YtnjagecmhdagkaaDoor
