/-
  Registers: the law RegsClone.
-/
import Derived.Test.YtlhdbaaokgdabaaRegsPlay
import Derived.Test.YtlhdbaaokgdabaaRegsGetO
namespace Go.Proofs.Ytlhdbaaokgdabaa
open Go.RowKit

theorem acts_chg {w wR : World} {A : Option Addr} {cap : Nat} {L : List ActC} {p : Nat → Prop} (h : CameActs w A cap L) (hc : Chg p w wR) (hp : ∀ b, b < w.heap.size → ¬ p b) : CameActs wR A cap L := by
  refine ⟨h.rd.chg hc fun h0 a e => ?_, h.len, fun s hs => ⟨(h.each s hs).kind, (h.each s hs).letter, ?_⟩⟩
  · obtain ⟨b0, o0, e2, hb0, _⟩ := h.rd.2 h0
    rw [e] at e2
    cases e2
    exact hp _ hb0
  · have hm := (h.each s hs).came
    exact ⟨hm.rd.chg hc fun h0 a e => by
      obtain ⟨b0, o0, e2, hb0, _⟩ := hm.rd.2 h0
      rw [e] at e2
      cases e2
      exact hp _ hb0, hm.nil, hm.len, hm.each, hm.le, hm.cap63⟩
theorem lrd_own {w : World} {base : Nat} {A : Option Addr} {c : Nat} {d : List (List UInt8)} (h : w.ownsRow base 9 1 (.slice A d.length c) d.length (lv d)) : LRd (fun b => base ≤ b) w A c d := by
  obtain ⟨A2, c2, e, h2⟩ := LRd.of_own (ok := fun b => base ≤ b) h (fun b hb => hb)
  injection e with e1 _ e3
  subst e1 e3
  exact h2
def ok0 (r1 r2 : Nat) (b : Nat) : Prop := ¬ b = r1 ∧ ¬ b = r2
def ok1 (r1 r2 : Nat) (A : Option Addr) (b : Nat) : Prop := ok0 r1 r2 b ∧ ¬ isX A b
theorem isX_blk {A : Option Addr} {n c g : Nat} (h : (Value.slice A n c).ownBlock = some g) : isX A g := by
  cases A with
  | none => simp [Value.ownBlock] at h
  | some a => simp [Value.ownBlock] at h; exact ⟨a, rfl, h⟩
theorem n11 (r1 r2 : Nat) (A : Option Addr) : ¬ ok1 r1 r2 A r1 := fun h => h.1.1 rfl
theorem n12 (r1 r2 : Nat) (A : Option Addr) : ¬ ok1 r1 r2 A r2 := fun h => h.1.2 rfl
theorem n01 (r1 r2 : Nat) : ¬ ok0 r1 r2 r1 := fun h => h.1 rfl
theorem n02 (r1 r2 : Nat) : ¬ ok0 r1 r2 r2 := fun h => h.2 rfl
set_option maxRecDepth 20000 in
set_option maxHeartbeats 8000000 in
theorem regsClone_law (lA : Option Addr) (L : List ActC) (lC : Nat) (mA : Option Addr) (M : List ActC) (mC : Nat) (w : World) (hl : CameActs w lA lC L) (hm : CameActs w mA mC M) :
    Calls Try.prog 6 #[.slice lA L.length lC, .slice mA M.length mC] w fun e w' => e = .returned (.bool true) ∧ Grows w w' := by
  obtain ⟨i0, hi, hz0, hz1, hz2⟩ := info_parts infoStr
  have hLL := Lib.hid hl
  have hMM := Lib.hid hm
  have hln := hl.len
  have hmn := hm.len
  clear hl hm
  cases h1 : bigA L 40 with
  | true =>
    have H1 := Lib.hid h1
    clear h1
    go_enter Try.func6, Try.ntmps6
    go_wp2_with fail
    (with_reducible refine (beyond_any lA lC L 40 40 rfl _ hLL.out (by omega)).mono ?_)
    rw [H1.out]
    rintro e w1 ⟨rfl, rfl⟩
    go_wp2_with fail
    (with_reducible refine (lives_any _).mono ?_)
    rintro e w1 ⟨rfl, m1, rfl⟩
    go_wp2_with fail
    go_ret
    exact ⟨rfl, (by repeat' first | exact Grows.refl _ | refine Grows.more ?_ _ | refine Grows.alloc ?_ _ | refine Grows.drew ?_)⟩
  | false =>
  cases h2 : bigA M 20 with
  | true =>
    have H1 := Lib.hid h1
    have H2 := Lib.hid h2
    clear h1 h2
    go_enter Try.func6, Try.ntmps6
    go_wp2_with fail
    (with_reducible refine (beyond_any lA lC L 40 40 rfl _ hLL.out (by omega)).mono ?_)
    rw [H1.out]
    rintro e w1 ⟨rfl, rfl⟩
    go_wp2_with fail
    (with_reducible refine (beyond_any mA mC M 20 20 rfl _ hMM.out (by omega)).mono ?_)
    rw [H2.out]
    rintro e w1 ⟨rfl, rfl⟩
    go_wp2_with fail
    (with_reducible refine (lives_any _).mono ?_)
    rintro e w1 ⟨rfl, m1, rfl⟩
    go_wp2_with fail
    go_ret
    exact ⟨rfl, (by repeat' first | exact Grows.refl _ | refine Grows.more ?_ _ | refine Grows.alloc ?_ _ | refine Grows.drew ?_)⟩
  | false =>
  have H1 := Lib.hid h1
  have H2 := Lib.hid h2
  have hL40 := Lib.hid (bigA_no h1)
  have hM20 := Lib.hid (bigA_no h2)
  clear h1 h2
  go_enter Try.func6, Try.ntmps6
  go_wp2_with fail
  (with_reducible refine (beyond_any lA lC L 40 40 rfl _ hLL.out (by omega)).mono ?_)
  rw [H1.out]
  rintro e w1 ⟨rfl, rfl⟩
  go_wp2_with fail
  (with_reducible refine (beyond_any mA mC M 20 20 rfl _ hMM.out (by omega)).mono ?_)
  rw [H2.out]
  rintro e w1 ⟨rfl, rfl⟩
  go_wp2_with fail
  (with_reducible refine (new_any _).mono ?_)
  rintro e w1 ⟨rfl, hw1⟩
  have hR1 : Hid (Regs (ok0 w.heap.size w1.heap.size) w1 (w.heap.size + 1) w.heap.size rs0) := Lib.hid (hw1 ▸ regs_new w _)
  have hs1 : Hid (w1.heap.size = w.heap.size + 2) := Lib.hid (by rw [hw1]; simp)
  have hG1 : Hid (Grows w w1) := Lib.hid (by rw [hw1]; exact (by repeat' first | exact Grows.refl _ | refine Grows.more ?_ _ | refine Grows.alloc ?_ _ | refine Grows.drew ?_))
  clear hw1
  go_wp2_with fail
  (with_reducible refine (new_any _).mono ?_)
  rintro e w2 ⟨rfl, hw2⟩
  have hR2 : Hid (Regs (ok0 w.heap.size w1.heap.size) w2 (w1.heap.size + 1) w1.heap.size rs0) := Lib.hid (hw2 ▸ regs_new w1 _)
  have hG12 : Grows w1 w2 := by rw [hw2]; exact (by repeat' first | exact Grows.refl _ | refine Grows.more ?_ _ | refine Grows.alloc ?_ _ | refine Grows.drew ?_)
  have hR1 := Lib.hid (hR1.out.grows hG12)
  have hs2 : w2.heap.size = w1.heap.size + 2 := by rw [hw2]; simp
  have hG2 := Lib.hid (hG1.out.trans hG12)
  clear hw2 hG12
  obtain ⟨p2, hp2⟩ : ∃ x, w1.heap.size + 1 = x := ⟨_, rfl⟩
  obtain ⟨r2, hr2⟩ : ∃ x, w1.heap.size = x := ⟨_, rfl⟩
  obtain ⟨p1, hp1⟩ : ∃ x, w.heap.size + 1 = x := ⟨_, rfl⟩
  obtain ⟨r1, hr1⟩ : ∃ x, w.heap.size = x := ⟨_, rfl⟩
  rw [hp1, hr1, hr2] at hR1
  rw [hp2, hr1, hr2] at hR2
  rw [hp1, hp2]
  have HN : Hid (r1 = w.heap.size ∧ p1 = w.heap.size + 1 ∧ r2 = w.heap.size + 2 ∧ p2 = w.heap.size + 3 ∧ w2.heap.size = w.heap.size + 4) := Lib.hid ⟨by omega, by omega, by have := hs1.out; omega, by have := hs1.out; omega, by have := hs1.out; omega⟩
  clear hp1 hp2 hr1 hr2 hs2
  have hCw : Hid (Chg (fun b => b = r1 ∨ b = r2) w w2) := Lib.hid (Chg.of_grows hG2.out)
  go_wp2_with fail
  go_loopg [7] L.length (fun q i wR => ∃ (k : Nat) (S : RS), q + k = L.length ∧ i = .int .i64 k ∧ Regs (ok0 r1 r2) wR p1 r1 S ∧ Regs (ok0 r1 r2) wR p2 r2 S ∧ Chg (fun b => b = r1 ∨ b = r2) w2 wR)
  case atStart => exact ⟨0, rs0, by omega, rfl, hR1.out, hR2.out, Chg.refl _ _⟩
  case round =>
    obtain ⟨wR, hwR⟩ : ∃ z, z = wr := ⟨_, rfl⟩
    subst hwR
    obtain ⟨k, S, hq, rfl, hra, hrb, hc1⟩ := hrel
    have hQ := Lib.hid hq
    have HA := Lib.hid hra
    have HB := Lib.hid hrb
    have HC := Lib.hid hc1
    have hkl : k ≤ L.length := by omega
    have hsz := hc1.size
    have hr1l : r1 < wR.heap.size := by have := HN.out; omega
    have hr2l : r2 < wR.heap.size := by have := HN.out; omega
    have hlt : Hid (∀ b, b < w.heap.size → ¬ (b = r1 ∨ b = r2)) := Lib.hid (fun b hb h => by have := HN.out; omega)
    clear hra hrb hc1 hq
    by_cases h1 : k < L.length
    · have hLw := acts_chg hLL.out (hCw.out.trans HC.out) hlt.out
      obtain ⟨b0, o0, hlA, hb0, e0, e1, e2, e3⟩ := hLw.rd.act k h1
      have hbw : Hid (b0 < w.heap.size) := Lib.hid (by obtain ⟨b9, o9, e9, hb9, _⟩ := hLL.out.rd.2 (by omega); rw [hlA] at e9; cases e9; exact hb9)
      have hb0 : InHeap b0 wR := hb0
      have hact := Lib.hid (hLw.each _ (List.getElem_mem h1))
      have hfx := hL40.out.2 _ (List.getElem_mem h1)
      have k0 : (0 : Int) ≤ (k : Int) := by omega
      have k1 : (k : Int) < (L.length : Int) := by omega
      have hXl : L[k].x.d.length ≤ 20 := hfx.1
      have hX : Hid (LRd (fun b => b < w.heap.size) wR L[k].A L[k].cap L[k].x.d) := Lib.hid ((lrd_in (hLL.out.each _ (List.getElem_mem h1)).came).chg (hCw.out.trans HC.out) fun b _ h => hlt.out b h)
      have hft : Hid (L[k].x.fits) := Lib.hid ⟨by omega, fun s hs => by have := hfx.2 s hs; omega⟩
      obtain ⟨n, hn⟩ : ∃ n : Nat, L[k].kind = n := ⟨L[k].kind.toNat, by have := hact.out.kind; omega⟩
      obtain ⟨c, hc⟩ : ∃ c : Nat, L[k].letter = c := ⟨L[k].letter.toNat, by have := hact.out.letter; omega⟩
      rw [hn] at e0
      rw [hc] at e1
      subst hlA
      clear hLw hfx hn hc
      go_wp2_with fail
      go_region_held3 (fun w' => w'.cell? ⟨b0, o0 + k * 4 + 2, none⟩ = some (.slice L[k].A L[k].x.d.length L[k].cap) ∧ w'.cell? ⟨b0, o0 + k * 4 + 3, none⟩ = some (.bool L[k].x.whole))
        (first | (simp [go_sem, hb0, e2, e3]; done))
        (first | (refine step_append_rd _ (by rfl) (.const (.slice none 0 0)) (.tmp 38) 23 (by rfl) _ 9 i0 (.string ⟨#[]⟩) 16 Try.underlying23 hi hz0 hz1 hz2 (by rfl) (.slice none 0 0) 0 [] (by rfl) (World.ownsRow_nil _ _ _ _) L[k].A L[k].x.d.length L[k].cap (lv L[k].x.d) (by simp [Act.eval, Act.put]) hX.out.nil (hX.out.rd.grows (by repeat' first | exact Grows.refl _ | refine Grows.more ?_ _ | refine Grows.alloc ?_ _ | refine Grows.drewN ?_ _ | refine Grows.drew ?_)) (lv_one _) (by unfold maxLen; omega) (by omega) (Nat.le_refl _) ?_; intro v1 w3 hown hgrow; obtain ⟨m2, rfl⟩ := grown_none hgrow; clear hgrow; rw [Nat.zero_add, List.nil_append] at hown; obtain ⟨A1, c1, rfl, -⟩ := own_form1 hown; have hown := Lib.hid hown))
      · obtain ⟨gO, hgO⟩ : ∃ z, z = gk - 1 := ⟨_, rfl⟩
        obtain ⟨W3, hW3⟩ : ∃ W, W = ((more wR m2).alloc (.cells #[.slice A1 L[k].x.d.length c1, .bool L[k].x.whole] 25)) := ⟨_, rfl⟩
        have hfr : Hid (∀ b, isX A1 b → wR.heap.size ≤ b ∧ ¬ b = wR.heap.size + m2.bs.size) := Lib.hid (fun b hx => by have := isX_own hown.out hx; simp at this; omega)
        have hown3 : Hid (W3.ownsRow wR.heap.size 9 1 (.slice A1 L[k].x.d.length c1) L[k].x.d.length (lv L[k].x.d)) := Lib.hid (by rw [hW3]; exact own_le (own_grows hown.out (Grows.alloc (Grows.refl _) _)) (by simp))
        have c80 : W3.cell? ⟨wR.heap.size + m2.bs.size, 0, none⟩ = some (.slice A1 L[k].x.d.length c1) := by rw [hW3]; simp [go_sem]
        have c81 : W3.cell? ⟨wR.heap.size + m2.bs.size, 1, none⟩ = some (.bool L[k].x.whole) := by rw [hW3]; simp [go_sem]
        have ibx : InHeap (wR.heap.size + m2.bs.size) W3 := by rw [hW3]; simp [go_sem]
        have hG3 : Hid (Grows wR W3) := Lib.hid (by rw [hW3]; exact (by repeat' first | exact Grows.refl _ | refine Grows.more ?_ _ | refine Grows.alloc ?_ _ | refine Grows.drew ?_))
        have s0 : W3.cell? ⟨b0, o0 + k * 4, none⟩ = some (.int .u8 n) := by rw [hW3]; simp [go_sem, hb0, e0]
        have s1 : W3.cell? ⟨b0, o0 + k * 4 + 1, none⟩ = some (.int .u8 c) := by rw [hW3]; simp [go_sem, hb0, e1]
        have s2 : W3.cell? ⟨b0, o0 + k * 4 + 2, none⟩ = some (.slice L[k].A L[k].x.d.length L[k].cap) := by rw [hW3]; simp [go_sem, hb0, e2]
        have s3 : W3.cell? ⟨b0, o0 + k * 4 + 3, none⟩ = some (.bool L[k].x.whole) := by rw [hW3]; simp [go_sem, hb0, e3]
        have ib0 : InHeap b0 W3 := by rw [hW3]; simp [go_sem, hb0]
        rw [← hW3]
        clear hW3 hown e0 e1 e2 e3
        have hz3 := hG3.out.below.size
        have hRa : Hid (Regs (ok1 r1 r2 A1) W3 p1 r1 S) := Lib.hid ((HA.out.mono (fun b hb h => ⟨h, fun hx => by have := (hfr.out b hx).1; omega⟩)).grows hG3.out)
        have hRb : Hid (Regs (ok1 r1 r2 A1) W3 p2 r2 S) := Lib.hid ((HB.out.mono (fun b hb h => ⟨h, fun hx => by have := (hfr.out b hx).1; omega⟩)).grows hG3.out)
        have hok : Hid (∀ b, W3.heap.size ≤ b → (ok1 r1 r2 A1) b) := Lib.hid (fun b h => ⟨⟨by omega, by omega⟩, fun hx => by have := (isX_own hown3.out hx).2.1; omega⟩)
        have hXo : Hid (LRd (fun b => wR.heap.size ≤ b) W3 A1 c1 L[k].x.d) := Lib.hid (lrd_own hown3.out)
        have hXi : Hid (LRd (fun b => b < w.heap.size) W3 L[k].A L[k].cap L[k].x.d) := Lib.hid (hX.out.grows hG3.out)
        have nx1 : ¬ wR.heap.size + m2.bs.size = r1 := by omega
        have nx2 : ¬ wR.heap.size + m2.bs.size = r2 := by omega
        have nb1 : ¬ b0 = r1 := fun e => hlt.out b0 hbw.out (.inl e)
        have nb2 : ¬ b0 = r2 := fun e => hlt.out b0 hbw.out (.inr e)
        have hpr : Hid (¬ r2 = r1 ∧ ¬ p2 = r1 ∧ ¬ r1 = r2 ∧ ¬ p1 = r2 ∧ p1 < wR.heap.size ∧ p2 < wR.heap.size) := Lib.hid (by have := HN.out; omega)
        have hbx : ¬ isX A1 (wR.heap.size + m2.bs.size) := fun h => (hfr.out _ h).2 rfl
        have hxr : Hid (∀ b, isX A1 b → ¬ b = r1 ∧ ¬ b = r2) := Lib.hid (fun b hx => by have := (hfr.out b hx).1; omega)
        clear hz3
        by_cases t0 : n % 2 = 0
        · have t0' : ((n : Int) % 2 == 0) = true := by rw [beq_iff_eq]; omega
          clear t0
          go_wp2_with fail
          go_region_held3 (fun w' => w'.cell? ⟨b0, o0 + k * 4 + 1, none⟩ = some (.int .u8 c) ∧ w'.cell? ⟨wR.heap.size + m2.bs.size, 0, none⟩ = some (.slice A1 L[k].x.d.length c1) ∧ w'.cell? ⟨wR.heap.size + m2.bs.size, 1, none⟩ = some (.bool L[k].x.whole))
            (first | (simp [go_sem, u1, x0, x1]; done) | (simp [go_sem, ib0, ibx, s1, c80, c81]; done))
            (first | (go_at_call 11; (refine Calls.mono (set_lit (ok := (ok1 r1 r2 A1)) (okx := fun b => wR.heap.size ≤ b) p1 r1 S c c rfl A1 _ c1 _ L[k].x rfl rfl _ (hRa.out.grows ?_) (hXo.out.grows ?_) hft.out ?_ (n11 r1 r2 A1)) ?_); (repeat' first | exact Grows.refl _ | refine Grows.more ?_ _ | refine Grows.alloc ?_ _ | refine Grows.drew ?_); (intro b h; exact hok.out b (by first | exact h | (simp at h; omega))); rintro e w4 ⟨rfl, hc4, hr4⟩; have hc34 : Chg (fun b => b = r1) W3 w4 := (Chg.of_grows (by repeat' first | exact Grows.refl _ | refine Grows.more ?_ _ | refine Grows.alloc ?_ _ | refine Grows.drew ?_)).trans hc4; have u1 := (hc34.cell (a := ⟨b0, o0 + k * 4 + 1, none⟩) ib0 nb1).trans s1; have u2 := (hc34.cell (a := ⟨b0, o0 + k * 4 + 2, none⟩) ib0 nb1).trans s2; have u3 := (hc34.cell (a := ⟨b0, o0 + k * 4 + 3, none⟩) ib0 nb1).trans s3; have x0 := (hc34.cell (a := ⟨wR.heap.size + m2.bs.size, 0, none⟩) ibx nx1).trans c80; have x1 := (hc34.cell (a := ⟨wR.heap.size + m2.bs.size, 1, none⟩) ibx nx1).trans c81; have ib4 : InHeap b0 w4 := Nat.lt_of_lt_of_le ib0 hc34.size; have ix4 : InHeap (wR.heap.size + m2.bs.size) w4 := Nat.lt_of_lt_of_le ibx hc34.size; have hR4a := Lib.hid hr4; have hR4b : Hid (Regs (ok1 r1 r2 A1) w4 p2 r2 S) := Lib.hid (hRb.out.chg hc34 hpr.out.1 hpr.out.2.1 (fun b _ h => h.1.1)); have hX4 : Hid (LRd (fun b => b < w.heap.size) w4 L[k].A L[k].cap L[k].x.d) := Lib.hid (hXi.out.chg hc34 (fun b _ h e => hlt.out b h (.inl e))); have hown4 : Hid (w4.ownsRow wR.heap.size 9 1 (.slice A1 L[k].x.d.length c1) L[k].x.d.length (lv L[k].x.d)) := Lib.hid (ownrow_chg hown3.out hc34 (fun g hg e => (hxr.out g (isX_blk hg)).1 e)); have hok4 : Hid (∀ b, w4.heap.size ≤ b → (ok1 r1 r2 A1) b) := Lib.hid (fun b h => hok.out b (Nat.le_trans hc34.size h)); have hC34 := Lib.hid hc34; clear hc4 hr4 hc34))
          go_wp2_with fail
          go_region_held3 (fun w' => w'.cell? ⟨b0, o0 + k * 4 + 1, none⟩ = some (.int .u8 c) ∧ w'.cell? ⟨b0, o0 + k * 4 + 2, none⟩ = some (.slice L[k].A L[k].x.d.length L[k].cap) ∧ w'.cell? ⟨b0, o0 + k * 4 + 3, none⟩ = some (.bool L[k].x.whole))
            (first | (simp [go_sem, y1, y2, y3]; done) | (simp [go_sem, ib4, u1, u2, u3]; done))
            (first | (go_at_call 11; (refine Calls.mono (set_lit (ok := (ok1 r1 r2 A1)) (okx := fun b => b < w.heap.size) p2 r2 S c c rfl L[k].A _ L[k].cap _ L[k].x rfl rfl _ (hR4b.out.grows ?_) (hX4.out.grows ?_) hft.out ?_ (n12 r1 r2 A1)) ?_); (repeat' first | exact Grows.refl _ | refine Grows.more ?_ _ | refine Grows.alloc ?_ _ | refine Grows.drew ?_); (intro b h; exact hok4.out b (by first | exact h | (simp at h; omega))); rintro e w5 ⟨rfl, hc5, hr5⟩; have hc45 : Chg (fun b => b = r2) w4 w5 := (Chg.of_grows (by repeat' first | exact Grows.refl _ | refine Grows.more ?_ _ | refine Grows.alloc ?_ _ | refine Grows.drew ?_)).trans hc5; have y1 := (hc45.cell (a := ⟨b0, o0 + k * 4 + 1, none⟩) ib4 nb2).trans u1; have y2 := (hc45.cell (a := ⟨b0, o0 + k * 4 + 2, none⟩) ib4 nb2).trans u2; have y3 := (hc45.cell (a := ⟨b0, o0 + k * 4 + 3, none⟩) ib4 nb2).trans u3; have z0 := (hc45.cell (a := ⟨wR.heap.size + m2.bs.size, 0, none⟩) ix4 nx2).trans x0; have ix5 : InHeap (wR.heap.size + m2.bs.size) w5 := Nat.lt_of_lt_of_le ix4 hc45.size; have hR5b := Lib.hid hr5; have hR5a : Hid (Regs (ok1 r1 r2 A1) w5 p1 r1 (rset S c L[k].x).1) := Lib.hid (hR4a.out.chg hc45 hpr.out.2.2.1 hpr.out.2.2.2.1 (fun b _ h => h.1.2)); have hown5 : Hid (w5.ownsRow wR.heap.size 9 1 (.slice A1 L[k].x.d.length c1) L[k].x.d.length (lv L[k].x.d)) := Lib.hid (ownrow_chg hown4.out hc45 (fun g hg e => (hxr.out g (isX_blk hg)).2 e)); have hC5 : Hid (Chg (fun b => b = r1 ∨ b = r2) w2 w5) := Lib.hid ((HC.out.trans (Chg.of_grows hG3.out)).trans ((hC34.out.mono fun b _ h => .inl h).trans (hc45.mono fun b _ h => .inr h))); clear hc5 hr5 hc45))
          go_wp2_with fail
          go_loopg [9] L[k].x.d.length (fun q i wx => ∃ (j : Nat) (xs : List Value), q + j = L[k].x.d.length ∧ i = .int .i64 j ∧ wx.ownsRow wR.heap.size 9 1 (.slice A1 L[k].x.d.length c1) L[k].x.d.length xs ∧ Chg (isX A1) w5 wx)
          case atStart => exact ⟨0, _, by omega, rfl, hown5.out, Chg.refl _ _⟩
          case round =>
            obtain ⟨wx, hwx⟩ : ∃ z, z = wr := ⟨_, rfl⟩
            subst hwx
            obtain ⟨j, xs, hq2, rfl, hwn, hcx⟩ := hrel
            have hQ2 := Lib.hid hq2
            have hjl : j ≤ L[k].x.d.length := by omega
            have hWN := Lib.hid hwn
            have hCX := Lib.hid hcx
            have cx0 := (hcx.cell (a := ⟨wR.heap.size + m2.bs.size, 0, none⟩) ix5 hbx).trans z0
            have ixb : InHeap (wR.heap.size + m2.bs.size) wx := Nat.lt_of_lt_of_le ix5 hcx.size
            clear hq2 hwn hcx
            by_cases hj : j < L[k].x.d.length
            · obtain ⟨gx, hgx, hgx1, hgx2⟩ := own_some hWN.out (by omega)
              subst hgx
              have hxl : xs.length = L[k].x.d.length := by have := hWN.out.1; omega
              have cxj : wx.cell? ⟨gx, j, none⟩ = some (xs[j]'(by omega)) := by have := hWN.out.cellAt j (by omega); rw [this, List.getElem?_eq_getElem (by omega)]
              have fxj := hWN.out.frozenAt j
              have kj0 : (0 : Int) ≤ (j : Int) := by omega
              have kj1 : (j : Int) < (L[k].x.d.length : Int) := by omega
              have igx : InHeap gx wx := hgx2
              have hst := Lib.hid (hWN.out.stored j (.string { data := #[115, 112, 111, 105, 108, 116] })).1
              have hcs := Lib.hid (hCX.out.trans (Chg.setCell (p := isX (some ⟨gx, 0, none⟩)) (a := ⟨gx, j, none⟩) ⟨_, rfl, rfl⟩ (.string { data := #[115, 112, 111, 105, 108, 116] })))
              go_wp2_with fail
              go_roundg (gk - 1)
              case measure => have := hQ2.out; omega
              case rel => exact ⟨j + 1, _, by have := hQ2.out; omega, by go_num, hst.out, hcs.out⟩
            · have hcl := hCX.out
              go_wp2_with fail
              go_roundg gO
              case measure => have := hQ.out; omega
              case rel => exact ⟨k + 1, (rset S c L[k].x).1, by have := hQ.out; omega, by go_num, (hR5a.out.chg hcl (fun h => (hxr.out _ h).1 rfl) (fun h => by have := (hfr.out _ h).1; have := hpr.out; omega) (fun b _ h => h.2)).mono (fun b _ h => h.1), (hR5b.out.chg hcl (fun h => (hxr.out _ h).2 rfl) (fun h => by have := (hfr.out _ h).1; have := hpr.out; omega) (fun b _ h => h.2)).mono (fun b _ h => h.1), hC5.out.late hcl (fun b hb h => by have := (hfr.out _ h).1; omega)⟩
        · have t0' : ((n : Int) % 2 == 0) = false := by rw [beq_eq_false_iff_ne]; omega
          clear t0
          go_wp2_with fail
          with_reducible refine Calls.mono (push_lit (ok := (ok1 r1 r2 A1)) (okx := fun b => wR.heap.size ≤ b) p1 r1 S A1 _ c1 _ L[k].x rfl rfl _ (hRa.out.grows (by repeat' first | exact Grows.refl _ | refine Grows.more ?_ _ | refine Grows.alloc ?_ _ | refine Grows.drew ?_)) (hXo.out.grows (by repeat' first | exact Grows.refl _ | refine Grows.more ?_ _ | refine Grows.alloc ?_ _ | refine Grows.drew ?_)) hft.out ?_ (n11 r1 r2 A1) ?_) ?_
          · intro b h; exact hok.out b (by first | exact h | (simp at h; omega))
          · intro b h e; omega
          rintro e w4 ⟨rfl, hc4, hr4⟩
          have hc34 : Chg (fun b => b = r1) W3 w4 := (Chg.of_grows (by repeat' first | exact Grows.refl _ | refine Grows.more ?_ _ | refine Grows.alloc ?_ _ | refine Grows.drew ?_)).trans hc4
          have u1 := (hc34.cell (a := ⟨b0, o0 + k * 4 + 1, none⟩) ib0 nb1).trans s1
          have u2 := (hc34.cell (a := ⟨b0, o0 + k * 4 + 2, none⟩) ib0 nb1).trans s2
          have u3 := (hc34.cell (a := ⟨b0, o0 + k * 4 + 3, none⟩) ib0 nb1).trans s3
          have x0 := (hc34.cell (a := ⟨wR.heap.size + m2.bs.size, 0, none⟩) ibx nx1).trans c80
          have x1 := (hc34.cell (a := ⟨wR.heap.size + m2.bs.size, 1, none⟩) ibx nx1).trans c81
          have ib4 : InHeap b0 w4 := Nat.lt_of_lt_of_le ib0 hc34.size
          have ix4 : InHeap (wR.heap.size + m2.bs.size) w4 := Nat.lt_of_lt_of_le ibx hc34.size
          have hR4a := Lib.hid hr4
          have hR4b : Hid (Regs (ok1 r1 r2 A1) w4 p2 r2 S) := Lib.hid (hRb.out.chg hc34 hpr.out.1 hpr.out.2.1 (fun b _ h => h.1.1))
          have hX4 : Hid (LRd (fun b => b < w.heap.size) w4 L[k].A L[k].cap L[k].x.d) := Lib.hid (hXi.out.chg hc34 (fun b _ h e => hlt.out b h (.inl e)))
          have hown4 : Hid (w4.ownsRow wR.heap.size 9 1 (.slice A1 L[k].x.d.length c1) L[k].x.d.length (lv L[k].x.d)) := Lib.hid (ownrow_chg hown3.out hc34 (fun g hg e => (hxr.out g (isX_blk hg)).1 e))
          have hok4 : Hid (∀ b, w4.heap.size ≤ b → (ok1 r1 r2 A1) b) := Lib.hid (fun b h => hok.out b (Nat.le_trans hc34.size h))
          have hC34 := Lib.hid hc34
          clear hc4 hr4 hc34
          go_wp2_with fail
          with_reducible refine Calls.mono (push_lit (ok := (ok1 r1 r2 A1)) (okx := fun b => b < w.heap.size) p2 r2 S L[k].A _ L[k].cap _ L[k].x rfl rfl _ (hR4b.out.grows (by repeat' first | exact Grows.refl _ | refine Grows.more ?_ _ | refine Grows.alloc ?_ _ | refine Grows.drew ?_)) (hX4.out.grows (by repeat' first | exact Grows.refl _ | refine Grows.more ?_ _ | refine Grows.alloc ?_ _ | refine Grows.drew ?_)) hft.out ?_ (n12 r1 r2 A1) ?_) ?_
          · intro b h; exact hok4.out b (by first | exact h | (simp at h; omega))
          · intro b h e; exact hlt.out b h (.inr e)
          rintro e w5 ⟨rfl, hc5, hr5⟩
          have hc45 : Chg (fun b => b = r2) w4 w5 := (Chg.of_grows (by repeat' first | exact Grows.refl _ | refine Grows.more ?_ _ | refine Grows.alloc ?_ _ | refine Grows.drew ?_)).trans hc5
          have y1 := (hc45.cell (a := ⟨b0, o0 + k * 4 + 1, none⟩) ib4 nb2).trans u1
          have y2 := (hc45.cell (a := ⟨b0, o0 + k * 4 + 2, none⟩) ib4 nb2).trans u2
          have y3 := (hc45.cell (a := ⟨b0, o0 + k * 4 + 3, none⟩) ib4 nb2).trans u3
          have z0 := (hc45.cell (a := ⟨wR.heap.size + m2.bs.size, 0, none⟩) ix4 nx2).trans x0
          have ix5 : InHeap (wR.heap.size + m2.bs.size) w5 := Nat.lt_of_lt_of_le ix4 hc45.size
          have hR5b := Lib.hid hr5
          have hR5a : Hid (Regs (ok1 r1 r2 A1) w5 p1 r1 (rpush S L[k].x).1) := Lib.hid (hR4a.out.chg hc45 hpr.out.2.2.1 hpr.out.2.2.2.1 (fun b _ h => h.1.2))
          have hown5 : Hid (w5.ownsRow wR.heap.size 9 1 (.slice A1 L[k].x.d.length c1) L[k].x.d.length (lv L[k].x.d)) := Lib.hid (ownrow_chg hown4.out hc45 (fun g hg e => (hxr.out g (isX_blk hg)).2 e))
          have hC5 : Hid (Chg (fun b => b = r1 ∨ b = r2) w2 w5) := Lib.hid ((HC.out.trans (Chg.of_grows hG3.out)).trans ((hC34.out.mono fun b _ h => .inl h).trans (hc45.mono fun b _ h => .inr h)))
          clear hc5 hr5 hc45
          go_wp2_with fail
          go_loopg [9] L[k].x.d.length (fun q i wx => ∃ (j : Nat) (xs : List Value), q + j = L[k].x.d.length ∧ i = .int .i64 j ∧ wx.ownsRow wR.heap.size 9 1 (.slice A1 L[k].x.d.length c1) L[k].x.d.length xs ∧ Chg (isX A1) w5 wx)
          case atStart => exact ⟨0, _, by omega, rfl, hown5.out, Chg.refl _ _⟩
          case round =>
            obtain ⟨wx, hwx⟩ : ∃ z, z = wr := ⟨_, rfl⟩
            subst hwx
            obtain ⟨j, xs, hq2, rfl, hwn, hcx⟩ := hrel
            have hQ2 := Lib.hid hq2
            have hjl : j ≤ L[k].x.d.length := by omega
            have hWN := Lib.hid hwn
            have hCX := Lib.hid hcx
            have cx0 := (hcx.cell (a := ⟨wR.heap.size + m2.bs.size, 0, none⟩) ix5 hbx).trans z0
            have ixb : InHeap (wR.heap.size + m2.bs.size) wx := Nat.lt_of_lt_of_le ix5 hcx.size
            clear hq2 hwn hcx
            by_cases hj : j < L[k].x.d.length
            · obtain ⟨gx, hgx, hgx1, hgx2⟩ := own_some hWN.out (by omega)
              subst hgx
              have hxl : xs.length = L[k].x.d.length := by have := hWN.out.1; omega
              have cxj : wx.cell? ⟨gx, j, none⟩ = some (xs[j]'(by omega)) := by have := hWN.out.cellAt j (by omega); rw [this, List.getElem?_eq_getElem (by omega)]
              have fxj := hWN.out.frozenAt j
              have kj0 : (0 : Int) ≤ (j : Int) := by omega
              have kj1 : (j : Int) < (L[k].x.d.length : Int) := by omega
              have igx : InHeap gx wx := hgx2
              have hst := Lib.hid (hWN.out.stored j (.string { data := #[115, 112, 111, 105, 108, 116] })).1
              have hcs := Lib.hid (hCX.out.trans (Chg.setCell (p := isX (some ⟨gx, 0, none⟩)) (a := ⟨gx, j, none⟩) ⟨_, rfl, rfl⟩ (.string { data := #[115, 112, 111, 105, 108, 116] })))
              go_wp2_with fail
              go_roundg (gk - 1)
              case measure => have := hQ2.out; omega
              case rel => exact ⟨j + 1, _, by have := hQ2.out; omega, by go_num, hst.out, hcs.out⟩
            · have hcl := hCX.out
              go_wp2_with fail
              go_roundg gO
              case measure => have := hQ.out; omega
              case rel => exact ⟨k + 1, (rpush S L[k].x).1, by have := hQ.out; omega, by go_num, (hR5a.out.chg hcl (fun h => (hxr.out _ h).1 rfl) (fun h => by have := (hfr.out _ h).1; have := hpr.out; omega) (fun b _ h => h.2)).mono (fun b _ h => h.1), (hR5b.out.chg hcl (fun h => (hxr.out _ h).2 rfl) (fun h => by have := (hfr.out _ h).1; have := hpr.out; omega) (fun b _ h => h.2)).mono (fun b _ h => h.1), hC5.out.late hcl (fun b hb h => by have := (hfr.out _ h).1; omega)⟩
      · obtain ⟨gO, hgO⟩ : ∃ z, z = gk - 1 := ⟨_, rfl⟩
        obtain ⟨W3, hW3⟩ : ∃ W, W = (more (wR.alloc (.cells #[.slice A1 L[k].x.d.length c1, .bool L[k].x.whole] 25)) m2) := ⟨_, rfl⟩
        have hfr : Hid (∀ b, isX A1 b → wR.heap.size ≤ b ∧ ¬ b = wR.heap.size) := Lib.hid (fun b hx => by have := isX_own hown.out hx; simp at this; omega)
        have hown3 : Hid (W3.ownsRow wR.heap.size 9 1 (.slice A1 L[k].x.d.length c1) L[k].x.d.length (lv L[k].x.d)) := Lib.hid (by rw [hW3]; exact own_le (ownrow_chg (show (more (wR.alloc (.cells #[.slice none 0 0, .bool false] 25)) m2).ownsRow _ 9 1 _ _ _ from hown.out) (chg_box _ _ _) (fun g hg hp => by have := hown.out.lt g hg; simp at this; omega)) (by simp))
        have c80 : W3.cell? ⟨wR.heap.size, 0, none⟩ = some (.slice A1 L[k].x.d.length c1) := by rw [hW3]; simp [go_sem]
        have c81 : W3.cell? ⟨wR.heap.size, 1, none⟩ = some (.bool L[k].x.whole) := by rw [hW3]; simp [go_sem]
        have ibx : InHeap (wR.heap.size) W3 := by rw [hW3]; simp [go_sem]
        have hG3 : Hid (Grows wR W3) := Lib.hid (by rw [hW3]; exact (by repeat' first | exact Grows.refl _ | refine Grows.more ?_ _ | refine Grows.alloc ?_ _ | refine Grows.drew ?_))
        have s0 : W3.cell? ⟨b0, o0 + k * 4, none⟩ = some (.int .u8 n) := by rw [hW3]; simp [go_sem, hb0, e0]
        have s1 : W3.cell? ⟨b0, o0 + k * 4 + 1, none⟩ = some (.int .u8 c) := by rw [hW3]; simp [go_sem, hb0, e1]
        have s2 : W3.cell? ⟨b0, o0 + k * 4 + 2, none⟩ = some (.slice L[k].A L[k].x.d.length L[k].cap) := by rw [hW3]; simp [go_sem, hb0, e2]
        have s3 : W3.cell? ⟨b0, o0 + k * 4 + 3, none⟩ = some (.bool L[k].x.whole) := by rw [hW3]; simp [go_sem, hb0, e3]
        have ib0 : InHeap b0 W3 := by rw [hW3]; simp [go_sem, hb0]
        rw [← hW3]
        clear hW3 hown e0 e1 e2 e3
        have hz3 := hG3.out.below.size
        have hRa : Hid (Regs (ok1 r1 r2 A1) W3 p1 r1 S) := Lib.hid ((HA.out.mono (fun b hb h => ⟨h, fun hx => by have := (hfr.out b hx).1; omega⟩)).grows hG3.out)
        have hRb : Hid (Regs (ok1 r1 r2 A1) W3 p2 r2 S) := Lib.hid ((HB.out.mono (fun b hb h => ⟨h, fun hx => by have := (hfr.out b hx).1; omega⟩)).grows hG3.out)
        have hok : Hid (∀ b, W3.heap.size ≤ b → (ok1 r1 r2 A1) b) := Lib.hid (fun b h => ⟨⟨by omega, by omega⟩, fun hx => by have := (isX_own hown3.out hx).2.1; omega⟩)
        have hXo : Hid (LRd (fun b => wR.heap.size ≤ b) W3 A1 c1 L[k].x.d) := Lib.hid (lrd_own hown3.out)
        have hXi : Hid (LRd (fun b => b < w.heap.size) W3 L[k].A L[k].cap L[k].x.d) := Lib.hid (hX.out.grows hG3.out)
        have nx1 : ¬ wR.heap.size = r1 := by omega
        have nx2 : ¬ wR.heap.size = r2 := by omega
        have nb1 : ¬ b0 = r1 := fun e => hlt.out b0 hbw.out (.inl e)
        have nb2 : ¬ b0 = r2 := fun e => hlt.out b0 hbw.out (.inr e)
        have hpr : Hid (¬ r2 = r1 ∧ ¬ p2 = r1 ∧ ¬ r1 = r2 ∧ ¬ p1 = r2 ∧ p1 < wR.heap.size ∧ p2 < wR.heap.size) := Lib.hid (by have := HN.out; omega)
        have hbx : ¬ isX A1 (wR.heap.size) := fun h => (hfr.out _ h).2 rfl
        have hxr : Hid (∀ b, isX A1 b → ¬ b = r1 ∧ ¬ b = r2) := Lib.hid (fun b hx => by have := (hfr.out b hx).1; omega)
        clear hz3
        by_cases t0 : n % 2 = 0
        · have t0' : ((n : Int) % 2 == 0) = true := by rw [beq_iff_eq]; omega
          clear t0
          go_wp2_with fail
          go_region_held3 (fun w' => w'.cell? ⟨b0, o0 + k * 4 + 1, none⟩ = some (.int .u8 c) ∧ w'.cell? ⟨wR.heap.size, 0, none⟩ = some (.slice A1 L[k].x.d.length c1) ∧ w'.cell? ⟨wR.heap.size, 1, none⟩ = some (.bool L[k].x.whole))
            (first | (simp [go_sem, u1, x0, x1]; done) | (simp [go_sem, ib0, ibx, s1, c80, c81]; done))
            (first | (go_at_call 11; (refine Calls.mono (set_lit (ok := (ok1 r1 r2 A1)) (okx := fun b => wR.heap.size ≤ b) p1 r1 S c c rfl A1 _ c1 _ L[k].x rfl rfl _ (hRa.out.grows ?_) (hXo.out.grows ?_) hft.out ?_ (n11 r1 r2 A1)) ?_); (repeat' first | exact Grows.refl _ | refine Grows.more ?_ _ | refine Grows.alloc ?_ _ | refine Grows.drew ?_); (intro b h; exact hok.out b (by first | exact h | (simp at h; omega))); rintro e w4 ⟨rfl, hc4, hr4⟩; have hc34 : Chg (fun b => b = r1) W3 w4 := (Chg.of_grows (by repeat' first | exact Grows.refl _ | refine Grows.more ?_ _ | refine Grows.alloc ?_ _ | refine Grows.drew ?_)).trans hc4; have u1 := (hc34.cell (a := ⟨b0, o0 + k * 4 + 1, none⟩) ib0 nb1).trans s1; have u2 := (hc34.cell (a := ⟨b0, o0 + k * 4 + 2, none⟩) ib0 nb1).trans s2; have u3 := (hc34.cell (a := ⟨b0, o0 + k * 4 + 3, none⟩) ib0 nb1).trans s3; have x0 := (hc34.cell (a := ⟨wR.heap.size, 0, none⟩) ibx nx1).trans c80; have x1 := (hc34.cell (a := ⟨wR.heap.size, 1, none⟩) ibx nx1).trans c81; have ib4 : InHeap b0 w4 := Nat.lt_of_lt_of_le ib0 hc34.size; have ix4 : InHeap (wR.heap.size) w4 := Nat.lt_of_lt_of_le ibx hc34.size; have hR4a := Lib.hid hr4; have hR4b : Hid (Regs (ok1 r1 r2 A1) w4 p2 r2 S) := Lib.hid (hRb.out.chg hc34 hpr.out.1 hpr.out.2.1 (fun b _ h => h.1.1)); have hX4 : Hid (LRd (fun b => b < w.heap.size) w4 L[k].A L[k].cap L[k].x.d) := Lib.hid (hXi.out.chg hc34 (fun b _ h e => hlt.out b h (.inl e))); have hown4 : Hid (w4.ownsRow wR.heap.size 9 1 (.slice A1 L[k].x.d.length c1) L[k].x.d.length (lv L[k].x.d)) := Lib.hid (ownrow_chg hown3.out hc34 (fun g hg e => (hxr.out g (isX_blk hg)).1 e)); have hok4 : Hid (∀ b, w4.heap.size ≤ b → (ok1 r1 r2 A1) b) := Lib.hid (fun b h => hok.out b (Nat.le_trans hc34.size h)); have hC34 := Lib.hid hc34; clear hc4 hr4 hc34))
          go_wp2_with fail
          go_region_held3 (fun w' => w'.cell? ⟨b0, o0 + k * 4 + 1, none⟩ = some (.int .u8 c) ∧ w'.cell? ⟨b0, o0 + k * 4 + 2, none⟩ = some (.slice L[k].A L[k].x.d.length L[k].cap) ∧ w'.cell? ⟨b0, o0 + k * 4 + 3, none⟩ = some (.bool L[k].x.whole))
            (first | (simp [go_sem, y1, y2, y3]; done) | (simp [go_sem, ib4, u1, u2, u3]; done))
            (first | (go_at_call 11; (refine Calls.mono (set_lit (ok := (ok1 r1 r2 A1)) (okx := fun b => b < w.heap.size) p2 r2 S c c rfl L[k].A _ L[k].cap _ L[k].x rfl rfl _ (hR4b.out.grows ?_) (hX4.out.grows ?_) hft.out ?_ (n12 r1 r2 A1)) ?_); (repeat' first | exact Grows.refl _ | refine Grows.more ?_ _ | refine Grows.alloc ?_ _ | refine Grows.drew ?_); (intro b h; exact hok4.out b (by first | exact h | (simp at h; omega))); rintro e w5 ⟨rfl, hc5, hr5⟩; have hc45 : Chg (fun b => b = r2) w4 w5 := (Chg.of_grows (by repeat' first | exact Grows.refl _ | refine Grows.more ?_ _ | refine Grows.alloc ?_ _ | refine Grows.drew ?_)).trans hc5; have y1 := (hc45.cell (a := ⟨b0, o0 + k * 4 + 1, none⟩) ib4 nb2).trans u1; have y2 := (hc45.cell (a := ⟨b0, o0 + k * 4 + 2, none⟩) ib4 nb2).trans u2; have y3 := (hc45.cell (a := ⟨b0, o0 + k * 4 + 3, none⟩) ib4 nb2).trans u3; have z0 := (hc45.cell (a := ⟨wR.heap.size, 0, none⟩) ix4 nx2).trans x0; have ix5 : InHeap (wR.heap.size) w5 := Nat.lt_of_lt_of_le ix4 hc45.size; have hR5b := Lib.hid hr5; have hR5a : Hid (Regs (ok1 r1 r2 A1) w5 p1 r1 (rset S c L[k].x).1) := Lib.hid (hR4a.out.chg hc45 hpr.out.2.2.1 hpr.out.2.2.2.1 (fun b _ h => h.1.2)); have hown5 : Hid (w5.ownsRow wR.heap.size 9 1 (.slice A1 L[k].x.d.length c1) L[k].x.d.length (lv L[k].x.d)) := Lib.hid (ownrow_chg hown4.out hc45 (fun g hg e => (hxr.out g (isX_blk hg)).2 e)); have hC5 : Hid (Chg (fun b => b = r1 ∨ b = r2) w2 w5) := Lib.hid ((HC.out.trans (Chg.of_grows hG3.out)).trans ((hC34.out.mono fun b _ h => .inl h).trans (hc45.mono fun b _ h => .inr h))); clear hc5 hr5 hc45))
          go_wp2_with fail
          go_loopg [9] L[k].x.d.length (fun q i wx => ∃ (j : Nat) (xs : List Value), q + j = L[k].x.d.length ∧ i = .int .i64 j ∧ wx.ownsRow wR.heap.size 9 1 (.slice A1 L[k].x.d.length c1) L[k].x.d.length xs ∧ Chg (isX A1) w5 wx)
          case atStart => exact ⟨0, _, by omega, rfl, hown5.out, Chg.refl _ _⟩
          case round =>
            obtain ⟨wx, hwx⟩ : ∃ z, z = wr := ⟨_, rfl⟩
            subst hwx
            obtain ⟨j, xs, hq2, rfl, hwn, hcx⟩ := hrel
            have hQ2 := Lib.hid hq2
            have hjl : j ≤ L[k].x.d.length := by omega
            have hWN := Lib.hid hwn
            have hCX := Lib.hid hcx
            have cx0 := (hcx.cell (a := ⟨wR.heap.size, 0, none⟩) ix5 hbx).trans z0
            have ixb : InHeap (wR.heap.size) wx := Nat.lt_of_lt_of_le ix5 hcx.size
            clear hq2 hwn hcx
            by_cases hj : j < L[k].x.d.length
            · obtain ⟨gx, hgx, hgx1, hgx2⟩ := own_some hWN.out (by omega)
              subst hgx
              have hxl : xs.length = L[k].x.d.length := by have := hWN.out.1; omega
              have cxj : wx.cell? ⟨gx, j, none⟩ = some (xs[j]'(by omega)) := by have := hWN.out.cellAt j (by omega); rw [this, List.getElem?_eq_getElem (by omega)]
              have fxj := hWN.out.frozenAt j
              have kj0 : (0 : Int) ≤ (j : Int) := by omega
              have kj1 : (j : Int) < (L[k].x.d.length : Int) := by omega
              have igx : InHeap gx wx := hgx2
              have hst := Lib.hid (hWN.out.stored j (.string { data := #[115, 112, 111, 105, 108, 116] })).1
              have hcs := Lib.hid (hCX.out.trans (Chg.setCell (p := isX (some ⟨gx, 0, none⟩)) (a := ⟨gx, j, none⟩) ⟨_, rfl, rfl⟩ (.string { data := #[115, 112, 111, 105, 108, 116] })))
              go_wp2_with fail
              go_roundg (gk - 1)
              case measure => have := hQ2.out; omega
              case rel => exact ⟨j + 1, _, by have := hQ2.out; omega, by go_num, hst.out, hcs.out⟩
            · have hcl := hCX.out
              go_wp2_with fail
              go_roundg gO
              case measure => have := hQ.out; omega
              case rel => exact ⟨k + 1, (rset S c L[k].x).1, by have := hQ.out; omega, by go_num, (hR5a.out.chg hcl (fun h => (hxr.out _ h).1 rfl) (fun h => by have := (hfr.out _ h).1; have := hpr.out; omega) (fun b _ h => h.2)).mono (fun b _ h => h.1), (hR5b.out.chg hcl (fun h => (hxr.out _ h).2 rfl) (fun h => by have := (hfr.out _ h).1; have := hpr.out; omega) (fun b _ h => h.2)).mono (fun b _ h => h.1), hC5.out.late hcl (fun b hb h => by have := (hfr.out _ h).1; omega)⟩
        · have t0' : ((n : Int) % 2 == 0) = false := by rw [beq_eq_false_iff_ne]; omega
          clear t0
          go_wp2_with fail
          with_reducible refine Calls.mono (push_lit (ok := (ok1 r1 r2 A1)) (okx := fun b => wR.heap.size ≤ b) p1 r1 S A1 _ c1 _ L[k].x rfl rfl _ (hRa.out.grows (by repeat' first | exact Grows.refl _ | refine Grows.more ?_ _ | refine Grows.alloc ?_ _ | refine Grows.drew ?_)) (hXo.out.grows (by repeat' first | exact Grows.refl _ | refine Grows.more ?_ _ | refine Grows.alloc ?_ _ | refine Grows.drew ?_)) hft.out ?_ (n11 r1 r2 A1) ?_) ?_
          · intro b h; exact hok.out b (by first | exact h | (simp at h; omega))
          · intro b h e; omega
          rintro e w4 ⟨rfl, hc4, hr4⟩
          have hc34 : Chg (fun b => b = r1) W3 w4 := (Chg.of_grows (by repeat' first | exact Grows.refl _ | refine Grows.more ?_ _ | refine Grows.alloc ?_ _ | refine Grows.drew ?_)).trans hc4
          have u1 := (hc34.cell (a := ⟨b0, o0 + k * 4 + 1, none⟩) ib0 nb1).trans s1
          have u2 := (hc34.cell (a := ⟨b0, o0 + k * 4 + 2, none⟩) ib0 nb1).trans s2
          have u3 := (hc34.cell (a := ⟨b0, o0 + k * 4 + 3, none⟩) ib0 nb1).trans s3
          have x0 := (hc34.cell (a := ⟨wR.heap.size, 0, none⟩) ibx nx1).trans c80
          have x1 := (hc34.cell (a := ⟨wR.heap.size, 1, none⟩) ibx nx1).trans c81
          have ib4 : InHeap b0 w4 := Nat.lt_of_lt_of_le ib0 hc34.size
          have ix4 : InHeap (wR.heap.size) w4 := Nat.lt_of_lt_of_le ibx hc34.size
          have hR4a := Lib.hid hr4
          have hR4b : Hid (Regs (ok1 r1 r2 A1) w4 p2 r2 S) := Lib.hid (hRb.out.chg hc34 hpr.out.1 hpr.out.2.1 (fun b _ h => h.1.1))
          have hX4 : Hid (LRd (fun b => b < w.heap.size) w4 L[k].A L[k].cap L[k].x.d) := Lib.hid (hXi.out.chg hc34 (fun b _ h e => hlt.out b h (.inl e)))
          have hown4 : Hid (w4.ownsRow wR.heap.size 9 1 (.slice A1 L[k].x.d.length c1) L[k].x.d.length (lv L[k].x.d)) := Lib.hid (ownrow_chg hown3.out hc34 (fun g hg e => (hxr.out g (isX_blk hg)).1 e))
          have hok4 : Hid (∀ b, w4.heap.size ≤ b → (ok1 r1 r2 A1) b) := Lib.hid (fun b h => hok.out b (Nat.le_trans hc34.size h))
          have hC34 := Lib.hid hc34
          clear hc4 hr4 hc34
          go_wp2_with fail
          with_reducible refine Calls.mono (push_lit (ok := (ok1 r1 r2 A1)) (okx := fun b => b < w.heap.size) p2 r2 S L[k].A _ L[k].cap _ L[k].x rfl rfl _ (hR4b.out.grows (by repeat' first | exact Grows.refl _ | refine Grows.more ?_ _ | refine Grows.alloc ?_ _ | refine Grows.drew ?_)) (hX4.out.grows (by repeat' first | exact Grows.refl _ | refine Grows.more ?_ _ | refine Grows.alloc ?_ _ | refine Grows.drew ?_)) hft.out ?_ (n12 r1 r2 A1) ?_) ?_
          · intro b h; exact hok4.out b (by first | exact h | (simp at h; omega))
          · intro b h e; exact hlt.out b h (.inr e)
          rintro e w5 ⟨rfl, hc5, hr5⟩
          have hc45 : Chg (fun b => b = r2) w4 w5 := (Chg.of_grows (by repeat' first | exact Grows.refl _ | refine Grows.more ?_ _ | refine Grows.alloc ?_ _ | refine Grows.drew ?_)).trans hc5
          have y1 := (hc45.cell (a := ⟨b0, o0 + k * 4 + 1, none⟩) ib4 nb2).trans u1
          have y2 := (hc45.cell (a := ⟨b0, o0 + k * 4 + 2, none⟩) ib4 nb2).trans u2
          have y3 := (hc45.cell (a := ⟨b0, o0 + k * 4 + 3, none⟩) ib4 nb2).trans u3
          have z0 := (hc45.cell (a := ⟨wR.heap.size, 0, none⟩) ix4 nx2).trans x0
          have ix5 : InHeap (wR.heap.size) w5 := Nat.lt_of_lt_of_le ix4 hc45.size
          have hR5b := Lib.hid hr5
          have hR5a : Hid (Regs (ok1 r1 r2 A1) w5 p1 r1 (rpush S L[k].x).1) := Lib.hid (hR4a.out.chg hc45 hpr.out.2.2.1 hpr.out.2.2.2.1 (fun b _ h => h.1.2))
          have hown5 : Hid (w5.ownsRow wR.heap.size 9 1 (.slice A1 L[k].x.d.length c1) L[k].x.d.length (lv L[k].x.d)) := Lib.hid (ownrow_chg hown4.out hc45 (fun g hg e => (hxr.out g (isX_blk hg)).2 e))
          have hC5 : Hid (Chg (fun b => b = r1 ∨ b = r2) w2 w5) := Lib.hid ((HC.out.trans (Chg.of_grows hG3.out)).trans ((hC34.out.mono fun b _ h => .inl h).trans (hc45.mono fun b _ h => .inr h)))
          clear hc5 hr5 hc45
          go_wp2_with fail
          go_loopg [9] L[k].x.d.length (fun q i wx => ∃ (j : Nat) (xs : List Value), q + j = L[k].x.d.length ∧ i = .int .i64 j ∧ wx.ownsRow wR.heap.size 9 1 (.slice A1 L[k].x.d.length c1) L[k].x.d.length xs ∧ Chg (isX A1) w5 wx)
          case atStart => exact ⟨0, _, by omega, rfl, hown5.out, Chg.refl _ _⟩
          case round =>
            obtain ⟨wx, hwx⟩ : ∃ z, z = wr := ⟨_, rfl⟩
            subst hwx
            obtain ⟨j, xs, hq2, rfl, hwn, hcx⟩ := hrel
            have hQ2 := Lib.hid hq2
            have hjl : j ≤ L[k].x.d.length := by omega
            have hWN := Lib.hid hwn
            have hCX := Lib.hid hcx
            have cx0 := (hcx.cell (a := ⟨wR.heap.size, 0, none⟩) ix5 hbx).trans z0
            have ixb : InHeap (wR.heap.size) wx := Nat.lt_of_lt_of_le ix5 hcx.size
            clear hq2 hwn hcx
            by_cases hj : j < L[k].x.d.length
            · obtain ⟨gx, hgx, hgx1, hgx2⟩ := own_some hWN.out (by omega)
              subst hgx
              have hxl : xs.length = L[k].x.d.length := by have := hWN.out.1; omega
              have cxj : wx.cell? ⟨gx, j, none⟩ = some (xs[j]'(by omega)) := by have := hWN.out.cellAt j (by omega); rw [this, List.getElem?_eq_getElem (by omega)]
              have fxj := hWN.out.frozenAt j
              have kj0 : (0 : Int) ≤ (j : Int) := by omega
              have kj1 : (j : Int) < (L[k].x.d.length : Int) := by omega
              have igx : InHeap gx wx := hgx2
              have hst := Lib.hid (hWN.out.stored j (.string { data := #[115, 112, 111, 105, 108, 116] })).1
              have hcs := Lib.hid (hCX.out.trans (Chg.setCell (p := isX (some ⟨gx, 0, none⟩)) (a := ⟨gx, j, none⟩) ⟨_, rfl, rfl⟩ (.string { data := #[115, 112, 111, 105, 108, 116] })))
              go_wp2_with fail
              go_roundg (gk - 1)
              case measure => have := hQ2.out; omega
              case rel => exact ⟨j + 1, _, by have := hQ2.out; omega, by go_num, hst.out, hcs.out⟩
            · have hcl := hCX.out
              go_wp2_with fail
              go_roundg gO
              case measure => have := hQ.out; omega
              case rel => exact ⟨k + 1, (rpush S L[k].x).1, by have := hQ.out; omega, by go_num, (hR5a.out.chg hcl (fun h => (hxr.out _ h).1 rfl) (fun h => by have := (hfr.out _ h).1; have := hpr.out; omega) (fun b _ h => h.2)).mono (fun b _ h => h.1), (hR5b.out.chg hcl (fun h => (hxr.out _ h).2 rfl) (fun h => by have := (hfr.out _ h).1; have := hpr.out; omega) (fun b _ h => h.2)).mono (fun b _ h => h.1), hC5.out.late hcl (fun b hb h => by have := (hfr.out _ h).1; omega)⟩
    · have hk : k = L.length := by omega
      subst hk
      have hRc : Hid (Regs (fun b => ok0 r1 r2 b ∧ b < wR.heap.size) wR p1 r1 S) := Lib.hid (HA.out.mono fun b hb h => ⟨h, hb⟩)
      have hpl : Hid (p1 < wR.heap.size ∧ p2 < wR.heap.size ∧ ¬ r2 = r1 ∧ ¬ p2 = r1) := Lib.hid (by have := HN.out; omega)
      go_wp2_with fail
      (with_reducible refine (clone_regs p1 r1 S _ hRc.out).mono ?_)
      rintro e w3 ⟨q3, r3, rfl, hg3, hq3, hr3, hrq⟩
      have hQ3 := Lib.hid hrq
      have HA3 := Lib.hid (HA.out.grows hg3)
      have HB3 := Lib.hid (HB.out.grows hg3)
      have HC3 : Hid (Chg (fun b => b = r1 ∨ b = r2) w2 w3) := Lib.hid (HC.out.trans (Chg.of_grows hg3))
      have hz3 := hg3.below.size
      have hqr : Hid (¬ r3 = r1 ∧ ¬ q3 = r1) := Lib.hid (by omega)
      have hGw : Hid (Grows w w3) := Lib.hid (Chg.grows (n := 0) hG2.out HC3.out fun b h => by have := HN.out; omega)
      clear hrq hg3 hq3 hr3
      go_wp2_with fail
      go_loopg [11] M.length (fun q i wx => ∃ (k : Nat) (S2 : RS), q + k = M.length ∧ i = .int .i64 k ∧ Regs (ok0 r1 r2) wx p1 r1 S2 ∧ Chg (fun b => b = r1) w3 wx)
      case atStart => exact ⟨0, S, by omega, rfl, HA3.out, Chg.refl _ _⟩
      case round =>
        obtain ⟨wx, hwx⟩ : ∃ z, z = wr := ⟨_, rfl⟩
        subst hwx
        obtain ⟨k, S2, hq, rfl, hra, hc1⟩ := hrel
        have hQ := Lib.hid hq
        have HA4 := Lib.hid hra
        have HC4 := Lib.hid hc1
        have hkl2 : k ≤ M.length := by omega
        have hzx := hc1.size
        clear hra hc1 hq
        by_cases h2 : k < M.length
        · have hcM : Chg (fun b => b = r1 ∨ b = r2) w wx := (hCw.out.trans HC3.out).trans (HC4.out.mono fun b _ h => .inl h)
          have hMw := acts_chg hMM.out hcM hlt.out
          obtain ⟨b0, o0, hlA, hb0, e0, e1, e2, e3⟩ := hMw.rd.act k h2
          have hbw : Hid (b0 < w.heap.size) := Lib.hid (by obtain ⟨b9, o9, e9, hb9, _⟩ := hMM.out.rd.2 (by omega); rw [hlA] at e9; cases e9; exact hb9)
          have hb0 : InHeap b0 wx := hb0
          have hact := Lib.hid (hMw.each _ (List.getElem_mem h2))
          have hfx := hM20.out.2 _ (List.getElem_mem h2)
          have k0 : (0 : Int) ≤ (k : Int) := by omega
          have k1 : (k : Int) < (M.length : Int) := by omega
          have hXl : M[k].x.d.length ≤ 20 := hfx.1
          have hX : Hid (LRd (fun b => b < w.heap.size) wx M[k].A M[k].cap M[k].x.d) := Lib.hid ((lrd_in (hMM.out.each _ (List.getElem_mem h2)).came).chg hcM fun b _ h => hlt.out b h)
          have hft : Hid (M[k].x.fits) := Lib.hid ⟨by omega, fun s hs => by have := hfx.2 s hs; omega⟩
          obtain ⟨c, hc⟩ : ∃ c : Nat, M[k].letter = c := ⟨M[k].letter.toNat, by have := hact.out.letter; omega⟩
          rw [hc] at e1
          subst hlA
          have nb1 : ¬ b0 = r1 := fun e => hlt.out b0 hbw.out (.inl e)
          have hok : Hid (∀ b, wx.heap.size ≤ b → ok0 r1 r2 b) := Lib.hid (fun b h => ⟨by omega, by omega⟩)
          clear hMw hfx hc hcM e0
          go_wp2_with fail
          go_region_held3 (fun w' => w'.cell? ⟨b0, o0 + k * 4 + 1, none⟩ = some (.int .u8 c) ∧ w'.cell? ⟨b0, o0 + k * 4 + 2, none⟩ = some (.slice M[k].A M[k].x.d.length M[k].cap) ∧ w'.cell? ⟨b0, o0 + k * 4 + 3, none⟩ = some (.bool M[k].x.whole))
            (first | (simp [go_sem, u1, u2, u3]; done) | (simp [go_sem, hb0, e1, e2, e3]; done))
            (first | (go_at_call 11; (refine Calls.mono (set_lit (ok := ok0 r1 r2) (okx := fun b => b < w.heap.size) p1 r1 S2 c c rfl M[k].A _ M[k].cap _ M[k].x rfl rfl _ (HA4.out.grows ?_) (hX.out.grows ?_) hft.out ?_ (n01 r1 r2)) ?_); (repeat' first | exact Grows.refl _ | refine Grows.more ?_ _ | refine Grows.alloc ?_ _ | refine Grows.drew ?_); (intro b h; exact hok.out b (by first | exact h | (simp at h; omega))); rintro e w4 ⟨rfl, hc4, hr4⟩; have hc34 : Chg (fun b => b = r1) wx w4 := (Chg.of_grows (by repeat' first | exact Grows.refl _ | refine Grows.more ?_ _ | refine Grows.alloc ?_ _ | refine Grows.drew ?_)).trans hc4; have u1 := (hc34.cell (a := ⟨b0, o0 + k * 4 + 1, none⟩) hb0 nb1).trans e1; have u2 := (hc34.cell (a := ⟨b0, o0 + k * 4 + 2, none⟩) hb0 nb1).trans e2; have u3 := (hc34.cell (a := ⟨b0, o0 + k * 4 + 3, none⟩) hb0 nb1).trans e3; have ib4 : InHeap b0 w4 := Nat.lt_of_lt_of_le hb0 hc34.size; have hR4 := Lib.hid hr4; have hX4 : Hid (LRd (fun b => b < w.heap.size) w4 M[k].A M[k].cap M[k].x.d) := Lib.hid (hX.out.chg hc34 (fun b _ h e => hlt.out b h (.inl e))); have hok4 : Hid (∀ b, w4.heap.size ≤ b → ok0 r1 r2 b) := Lib.hid (fun b h => hok.out b (Nat.le_trans hc34.size h)); have hC34 := Lib.hid hc34; clear hc4 hr4 hc34))
          go_wp2_with fail
          with_reducible refine Calls.mono (push_lit (ok := ok0 r1 r2) (okx := fun b => b < w.heap.size) p1 r1 _ M[k].A _ M[k].cap _ M[k].x rfl rfl _ (hR4.out.grows (by repeat' first | exact Grows.refl _ | refine Grows.more ?_ _ | refine Grows.alloc ?_ _ | refine Grows.drew ?_)) (hX4.out.grows (by repeat' first | exact Grows.refl _ | refine Grows.more ?_ _ | refine Grows.alloc ?_ _ | refine Grows.drew ?_)) hft.out ?_ (n01 r1 r2) ?_) ?_
          · intro b h; exact hok4.out b (by first | exact h | (simp at h; omega))
          · intro b h e; exact hlt.out b h (.inl e)
          rintro e w5 ⟨rfl, hc5, hr5⟩
          have hc45 : Hid (Chg (fun b => b = r1) w4 w5) := Lib.hid ((Chg.of_grows (by repeat' first | exact Grows.refl _ | refine Grows.more ?_ _ | refine Grows.alloc ?_ _ | refine Grows.drew ?_)).trans hc5)
          have hR5 := Lib.hid hr5
          clear hc5 hr5
          go_wp2_with fail
          go_roundg (gk - 1)
          case measure => have := hQ.out; omega
          case rel => exact ⟨k + 1, _, by have := hQ.out; omega, by go_num, hR5.out, (HC4.out.trans hC34.out).trans hc45.out⟩
        · have hQ8 : Hid (Regs (fun b => ok0 r1 r2 b ∧ b < wR.heap.size) wx q3 r3 S) := Lib.hid (hQ3.out.chg HC4.out hqr.out.1 hqr.out.2 (fun b _ h => h.1.1))
          have HB8 : Hid (Regs (ok0 r1 r2) wx p2 r2 S) := Lib.hid (HB3.out.chg HC4.out hpl.out.2.2.1 hpl.out.2.2.2 (fun b _ h => h.1))
          have hG8 : Hid (Grows w wx) := Lib.hid (Chg.grows (n := 0) hGw.out HC4.out fun b h => by have := HN.out; omega)
          go_wp2_with fail
          go_loopg [12] 256 (fun q i wy => ∃ (c : Nat), q + c = 256 ∧ i = .int .i64 c ∧ Chg (fun _ => False) wx wy)
          case atStart => exact ⟨0, rfl, rfl, Chg.refl _ _⟩
          case round =>
            obtain ⟨wy, hwy⟩ : ∃ z, z = wr := ⟨_, rfl⟩
            subst hwy
            obtain ⟨c, hq, rfl, hc1⟩ := hrel
            have hQ := Lib.hid hq
            have HC8 := Lib.hid hc1
            have hc9 : c ≤ 256 := by omega
            have hQy : Hid (Regs (fun b => ok0 r1 r2 b ∧ b < wR.heap.size) wy q3 r3 S) := Lib.hid (hQ8.out.chg hc1 (fun h => h) (fun h => h) (fun _ _ _ h => h))
            have HBy : Hid (Regs (ok0 r1 r2) wy p2 r2 S) := Lib.hid (HB8.out.chg hc1 (fun h => h) (fun h => h) (fun _ _ _ h => h))
            have hzy := hc1.size
            clear hq hc1
            by_cases h3 : c < 256
            · have c1 : (c : Int) < 256 := by omega
              have hw : IntKind.u8.wrap (c : Int) = c := u8_wrap (by omega) (by omega)
              have HL : Hid ((rget S c).1.d.length ≤ 1000000) := Lib.hid (by
                unfold rget
                cases hs : S (lowL c) with
                | none => simp [rg0]
                | some x => have := (rcheck_fits (HB8.out.good _ _ hs)).1; simp; omega)
              obtain ⟨gO, hgO⟩ : ∃ z, z = gk - 1 := ⟨_, rfl⟩
              go_wp2_with fail
              (with_reducible refine (getO_any q3 r3 S c _ hQy.out).mono ?_)
              rintro e wa ⟨A1, c1, rfl, hO1, m1, rfl⟩
              have hO1 := Lib.hid hO1
              go_wp2_with fail
              (with_reducible refine (get_any p2 r2 S c _ (HBy.out.grows (by repeat' first | exact Grows.refl _ | refine Grows.more ?_ _ | refine Grows.alloc ?_ _ | refine Grows.drew ?_))).mono ?_)
              rintro e wb ⟨A2, c2, rfl, hL2, m2, rfl⟩
              have hL2 := Lib.hid hL2
              have hgt := fun W (h : Regs (fun b => ok0 r1 r2 b ∧ b < wR.heap.size) W q3 r3 S) => get_any q3 r3 S c W h
              have HGT := Lib.hid hgt
              clear hgt
              generalize rget S c = x at *
              obtain ⟨x, e9⟩ := x
              go_wp2_with fail
              (with_reducible refine (same_lit' x A1 A2 _ _ _ ((lrd_own hO1.out).grows (by repeat' first | exact Grows.refl _ | refine Grows.more ?_ _ | refine Grows.alloc ?_ _ | refine Grows.drew ?_)) (hL2.out.grows (by repeat' first | exact Grows.refl _ | refine Grows.more ?_ _ | refine Grows.alloc ?_ _ | refine Grows.drew ?_)) HL.out).mono ?_)
              rintro e wc ⟨rfl, m3, rfl⟩
              go_wp2_with fail
              obtain ⟨W5, hW5⟩ : ∃ W, W = (more ((more ((more wy m1).alloc (.cells #[.slice A1 x.d.length c1, .bool x.whole] 25)) m2).alloc (.cells #[.slice A2 x.d.length c2, .bool x.whole] 25)) m3) := ⟨_, rfl⟩
              have hfr : Hid (∀ b, isX A1 b → wy.heap.size ≤ b ∧ b < wy.heap.size + m1.bs.size) := Lib.hid (fun b hx => by have := isX_own hO1.out hx; simp at this; omega)
              have own5 : Hid (W5.ownsRow wy.heap.size 9 1 (.slice A1 x.d.length c1) x.d.length (lv x.d)) := Lib.hid (own_grows hO1.out (by rw [hW5]; exact (by repeat' first | exact Grows.refl _ | refine Grows.more ?_ _ | refine Grows.alloc ?_ _ | refine Grows.drew ?_)))
              have c130 : W5.cell? ⟨wy.heap.size + m1.bs.size, 0, none⟩ = some (.slice A1 x.d.length c1) := by rw [hW5]; simp [go_sem]
              have c131 : W5.cell? ⟨wy.heap.size + m1.bs.size, 1, none⟩ = some (.bool x.whole) := by rw [hW5]; simp [go_sem]
              have c150 : W5.cell? ⟨wy.heap.size + m1.bs.size + 1 + m2.bs.size, 0, none⟩ = some (.slice A2 x.d.length c2) := by rw [hW5]; simp [go_sem]
              have c151 : W5.cell? ⟨wy.heap.size + m1.bs.size + 1 + m2.bs.size, 1, none⟩ = some (.bool x.whole) := by rw [hW5]; simp [go_sem]
              have f13 : ∀ i, W5.frozen? ⟨wy.heap.size + m1.bs.size, i, none⟩ = false := by intro i; rw [hW5]; simp [go_sem]
              have ix13 : InHeap (wy.heap.size + m1.bs.size) W5 := by rw [hW5]; simp [go_sem]
              have ix15 : InHeap (wy.heap.size + m1.bs.size + 1 + m2.bs.size) W5 := by rw [hW5]; simp [go_sem]
              have hG5 : Hid (Grows wy W5) := Lib.hid (by rw [hW5]; exact (by repeat' first | exact Grows.refl _ | refine Grows.more ?_ _ | refine Grows.alloc ?_ _ | refine Grows.drew ?_))
              have hL5 : Hid (LRd (fun b => wy.heap.size + m1.bs.size < b) W5 A2 c2 x.d) := Lib.hid ((hL2.out.grows (by rw [hW5]; exact (by repeat' first | exact Grows.refl _ | refine Grows.more ?_ _ | refine Grows.alloc ?_ _ | refine Grows.drew ?_))).mono fun b _ hb => by simp at hb; omega)
              rw [← hW5]
              clear hW5
              have hz5 := hG5.out.below.size
              have hq8 := hQ8.out.inp
              have hr8 := hQ8.out.map.lt
              have hQ5 : Hid (Regs (fun b => ok0 r1 r2 b ∧ b < wR.heap.size) W5 q3 r3 S) := Lib.hid (hQy.out.grows hG5.out)
              have hbx : ¬ isX A1 (wy.heap.size + m1.bs.size) := fun h => by have := (hfr.out _ h).2; omega
              have hbx5 : ¬ isX A1 (wy.heap.size + m1.bs.size + 1 + m2.bs.size) := fun h => by have := (hfr.out _ h).2; omega
              have hlate : Hid (∀ b, isX A1 b → wx.heap.size ≤ b ∧ ¬ b = r3 ∧ ¬ b = q3 ∧ wR.heap.size ≤ b) := Lib.hid (fun b h => by have := (hfr.out b h).1; omega)
              have hs13 : Hid (wx.heap.size ≤ wy.heap.size + m1.bs.size ∧ ¬ wy.heap.size + m1.bs.size = wy.heap.size + m1.bs.size + 1 + m2.bs.size) := Lib.hid (by omega)
              clear hz5 hq8 hr8
              have hxl9 : x.d.length ≤ 1000000 := HL.out
              go_loopg [17] x.d.length (fun q i wv => ∃ (j : Nat) (xs : List Value), q + j = x.d.length ∧ i = .int .i64 j ∧ wv.ownsRow wy.heap.size 9 1 (.slice A1 x.d.length c1) x.d.length xs ∧ Chg (isX A1) W5 wv)
              case atStart => exact ⟨0, _, by omega, rfl, own5.out, Chg.refl _ _⟩
              case round =>
                obtain ⟨wv, hwv⟩ : ∃ z, z = wr := ⟨_, rfl⟩
                subst hwv
                obtain ⟨j, xs, hq2, rfl, hwn, hcx⟩ := hrel
                have hQ2 := Lib.hid hq2
                have hjl : j ≤ x.d.length := by omega
                have hWN := Lib.hid hwn
                have hCX := Lib.hid hcx
                have cx0 := (hcx.cell (a := ⟨wy.heap.size + m1.bs.size, 0, none⟩) ix13 hbx).trans c130
                have ixb : InHeap (wy.heap.size + m1.bs.size) wv := Nat.lt_of_lt_of_le ix13 hcx.size
                clear hq2 hwn hcx
                by_cases hj : j < x.d.length
                · obtain ⟨gx, hgx, hgx1, hgx2⟩ := own_some hWN.out (by omega)
                  subst hgx
                  have hxl : xs.length = x.d.length := by have := hWN.out.1; omega
                  have cxj : wv.cell? ⟨gx, j, none⟩ = some (xs[j]'(by omega)) := by have := hWN.out.cellAt j (by omega); rw [this, List.getElem?_eq_getElem (by omega)]
                  have fxj := hWN.out.frozenAt j
                  have kj0 : (0 : Int) ≤ (j : Int) := by omega
                  have kj1 : (j : Int) < (x.d.length : Int) := by omega
                  have igx : InHeap gx wv := hgx2
                  have hst := Lib.hid (hWN.out.stored j (.string { data := #[115, 112, 111, 105, 108, 116] })).1
                  have hcs := Lib.hid (hCX.out.trans (Chg.setCell (p := isX (some ⟨gx, 0, none⟩)) (a := ⟨gx, j, none⟩) ⟨_, rfl, rfl⟩ (.string { data := #[115, 112, 111, 105, 108, 116] })))
                  go_wp2_with fail
                  go_roundg (gk - 1)
                  case measure => have := hQ2.out; omega
                  case rel => exact ⟨j + 1, _, by have := hQ2.out; omega, by go_num, hst.out, hcs.out⟩
                · have hcl := hCX.out
                  have hQ6 : Hid (Regs (fun b => ok0 r1 r2 b ∧ b < wR.heap.size) wv q3 r3 S) := Lib.hid (hQ5.out.chg hcl (fun h => (hlate.out _ h).2.1 rfl) (fun h => (hlate.out _ h).2.2.1 rfl) (fun b _ h hx => by have := (hlate.out b hx).2.2.2; have := h.2; omega))
                  have hL6 : Hid (LRd (fun b => wy.heap.size + m1.bs.size < b) wv A2 c2 x.d) := Lib.hid (hL5.out.chg hcl (fun b _ h hx => by have := (hfr.out b hx).2; omega))
                  have d131 := (hcl.cell (a := ⟨wy.heap.size + m1.bs.size, 1, none⟩) ix13 hbx).trans c131
                  have d150 := (hcl.cell (a := ⟨wy.heap.size + m1.bs.size + 1 + m2.bs.size, 0, none⟩) ix15 hbx5).trans c150
                  have d151 := (hcl.cell (a := ⟨wy.heap.size + m1.bs.size + 1 + m2.bs.size, 1, none⟩) ix15 hbx5).trans c151
                  have g13 : ∀ i, wv.frozen? ⟨wy.heap.size + m1.bs.size, i, none⟩ = false := fun i => (hcl.frozen (a := ⟨wy.heap.size + m1.bs.size, i, none⟩) ix13 hbx).trans (f13 i)
                  have iy15 : InHeap (wy.heap.size + m1.bs.size + 1 + m2.bs.size) wv := Nat.lt_of_lt_of_le ix15 hcl.size
                  have hCv : Hid (Chg (fun _ => False) wx wv) := Lib.hid ((HC8.out.trans (Chg.of_grows hG5.out)).late hcl (fun b hb h => by have := (hlate.out b h).1; omega))
                  have n1315 : ¬ wy.heap.size + m1.bs.size = wy.heap.size + m1.bs.size + 1 + m2.bs.size := hs13.out.2
                  go_wp2_with fail
                  (with_reducible refine (HGT.out _ hQ6.out).mono ?_)
                  rintro e wd ⟨A3, c3, rfl, hL3, m4, rfl⟩
                  have hL3 := Lib.hid hL3
                  go_wp2_with fail
                  obtain ⟨W9, hW9⟩ : ∃ W, W = (wv.setCell ⟨wy.heap.size + m1.bs.size, 0, none⟩ (.slice A3 x.d.length c3)).setCell ⟨wy.heap.size + m1.bs.size, 1, none⟩ (.bool x.whole) := ⟨_, rfl⟩
                  have hc9 : Chg (fun b => b = wy.heap.size + m1.bs.size) wv W9 := by rw [hW9]; exact (Chg.setCell (p := fun b => b = wy.heap.size + m1.bs.size) (a := ⟨wy.heap.size + m1.bs.size, 0, none⟩) rfl _).trans (Chg.setCell (p := fun b => b = wy.heap.size + m1.bs.size) (a := ⟨wy.heap.size + m1.bs.size, 1, none⟩) rfl _)
                  have iv13 : InHeap (wy.heap.size + m1.bs.size) wv := Nat.lt_of_lt_of_le ix13 hcl.size
                  have iv13' : wy.heap.size + m1.bs.size < wv.heap.size := iv13
                  have hcm : Chg (fun b => b = wy.heap.size + m1.bs.size) (more wv m4) (more W9 m4) := by
                    have e : more W9 m4 = ((more wv m4).setCell ⟨wy.heap.size + m1.bs.size, 0, none⟩ (.slice A3 x.d.length c3)).setCell ⟨wy.heap.size + m1.bs.size, 1, none⟩ (.bool x.whole) := by rw [hW9]; simp [go_sem, iv13]
                    rw [e]
                    exact (Chg.setCell (p := fun b => b = wy.heap.size + m1.bs.size) (a := ⟨wy.heap.size + m1.bs.size, 0, none⟩) rfl _).trans (Chg.setCell (p := fun b => b = wy.heap.size + m1.bs.size) (a := ⟨wy.heap.size + m1.bs.size, 1, none⟩) rfl _)
                  have hL9 : Hid (LRd (fun b => wv.heap.size ≤ b) (more W9 m4) A3 c3 x.d) := Lib.hid (hL3.out.chg hcm (fun b _ hb e => by omega))
                  have hL69 : Hid (LRd (fun b => wy.heap.size + m1.bs.size < b) (more W9 m4) A2 c2 x.d) := Lib.hid ((hL6.out.grows (Grows.of wv m4)).chg hcm (fun b _ hb e => by omega))
                  have hfin : Hid (Chg (fun _ => False) wx (more W9 m4)) := Lib.hid ((hCv.out.late hc9 (fun b hb h => by have := hs13.out.1; omega)).trans (Chg.of_grows (Grows.of W9 m4)))
                  rw [← hW9]
                  clear hW9 hc9 hcm
                  (with_reducible refine (same_lit' x A3 A2 _ _ _ hL9.out hL69.out HL.out).mono ?_)
                  rintro e we ⟨rfl, m5, rfl⟩
                  go_wp2_with fail
                  go_roundg gO
                  case measure => have := hQ.out; omega
                  case rel => exact ⟨c + 1, by have := hQ.out; omega, by go_num, hfin.out.trans (Chg.of_grows (by repeat' first | exact Grows.refl _ | refine Grows.more ?_ _ | refine Grows.alloc ?_ _ | refine Grows.drew ?_))⟩
            · have hc256 : c = 256 := by omega
              go_wp2_with fail
              (with_reducible refine (lives_any _).mono ?_)
              rintro e wz ⟨rfl, m9, rfl⟩
              go_wp2_with fail
              go_ret
              exact ⟨rfl, (Chg.grows (n := 0) hG8.out HC8.out fun b h => h.elim).trans (by repeat' first | exact Grows.refl _ | refine Grows.more ?_ _ | refine Grows.alloc ?_ _ | refine Grows.drew ?_)⟩
end Go.Proofs.Ytlhdbaaokgdabaa
