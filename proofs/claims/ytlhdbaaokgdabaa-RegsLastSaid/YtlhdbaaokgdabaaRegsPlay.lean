/-
  Registers: the law RegsPlay.
-/
import Derived.Test.YtlhdbaaokgdabaaRegsBey
namespace Go.Proofs.Ytlhdbaaokgdabaa
open Go.RowKit

/-- The document's registers without text, cell by cell. -/
def ZR : Array Value := (List.replicate 256 (Value.bool false) ++ (List.replicate 256 [Value.slice none 0 0, Value.bool false]).flatten).toArray
theorem zeroRef (w : World) : (zeroValue 35).run Try.prog w = .ok (.agg ZR) w := by kernel_rfl
theorem flat2 {α : Type} (a b : α) : ∀ n c, c < n → (List.replicate n [a, b]).flatten[c * 2]? = some a ∧ (List.replicate n [a, b]).flatten[c * 2 + 1]? = some b := by
  intro n
  induction n with
  | zero => intro c h; omega
  | succ n ih =>
    intro c h
    rw [List.replicate_succ, List.flatten_cons]
    cases c with
    | zero => simp
    | succ c =>
      have := ih c (by omega)
      rw [show (c + 1) * 2 = c * 2 + 2 by omega]
      simpa using this
theorem zr_has (n c : Nat) (h : c < n) : (List.replicate n (Value.bool false) ++ (List.replicate n [Value.slice none 0 0, Value.bool false]).flatten)[c]? = some (.bool false) := by
  rw [List.getElem?_append_left (by rw [List.length_replicate]; exact h), List.getElem?_replicate, if_pos h]
theorem zr_0 (n c : Nat) (h : c < n) : (List.replicate n (Value.bool false) ++ (List.replicate n [Value.slice none 0 0, Value.bool false]).flatten)[n + c * 2]? = some (.slice none 0 0) := by
  rw [List.getElem?_append_right (by rw [List.length_replicate]; omega), List.length_replicate, show n + c * 2 - n = c * 2 by omega]
  exact (flat2 _ _ n c h).1
theorem zr_1 (n c : Nat) (h : c < n) : (List.replicate n (Value.bool false) ++ (List.replicate n [Value.slice none 0 0, Value.bool false]).flatten)[n + c * 2 + 1]? = some (.bool false) := by
  rw [List.getElem?_append_right (by rw [List.length_replicate]; omega), List.length_replicate, show n + c * 2 + 1 - n = c * 2 + 1 by omega]
  exact (flat2 _ _ n c h).2
theorem ref_new {ok : Nat → Prop} (w : World) (t : TypeId) (zs : Array Value) (hz : zs = ZR) : RefIs ok (w.alloc (.cells zs t)) w.heap.size rs0 := by
  have hc : ∀ j, (w.alloc (.cells zs t)).cell? ⟨w.heap.size, j, none⟩ = zs[j]? := fun j => cell_of_row _ _ j zs t (0, 0) (World.alloc_heap_new _ _)
  have hz2 : ∀ j, zs[j]? = (List.replicate 256 (Value.bool false) ++ (List.replicate 256 [Value.slice none 0 0, Value.bool false]).flatten)[j]? := fun j => by rw [hz]; exact List.getElem?_toArray
  clear hz
  refine ⟨fun c h => ?_, fun c h => ⟨none, 0, ?_, ?_, ⟨Rd.nil_, by simp [rs0, rg0], by simp [rs0, rg0], by omega, by simp [rs0, rg0]⟩⟩, rgood0, by simp [go_sem], fun i => by simp [go_sem]⟩
  · rw [hc, hz2, zr_has 256 c h]; rfl
  · rw [hc, hz2, zr_0 256 c h]; rfl
  · rw [hc, hz2, zr_1 256 c h]; rfl
/-- The memory of what came in. -/
theorem lrd_in {w : World} {A : Option Addr} {cap : Nat} {d : List (List UInt8)} (h : Came w A cap d) : LRd (fun b => b < w.heap.size) w A cap d := ⟨h.rd, h.nil, h.le, h.cap63, fun hn a e => by
  obtain ⟨b, o, e2, hb, _⟩ := h.rd.2 hn
  rw [e] at e2
  cases e2
  exact hb⟩
theorem refSet_lit {ok okx : Nat → Prop} (g : Nat) (S : RS) (c : Int) (k : Nat) (hk : c = k) (A : Option Addr) (cap : Nat) (x : Rg) (w : World) (h : RefIs ok w g S) (hx : LRd okx w A cap x.d) (hf : x.fits) (hok : ∀ b, w.heap.size ≤ b → ok b) (hng : ¬ ok g) (hxg : ∀ b, okx b → ¬ b = g) (hk9 : k < 256) :
    Calls Try.prog 12 #[.pointer (some ⟨g, 0, none⟩), .int .u8 c, .agg #[.slice A x.d.length cap, .bool x.whole]] w (RefPut ok g (rset S c x) w) := by
  subst hk
  exact refSet_any g S k A cap x w h hx hf hok hng hxg hk9
theorem nnr2 (r g : Nat) : ¬ (fun b => ¬ b = r ∧ ¬ b = g) r := fun h => h.1 rfl
theorem nng2 (r g : Nat) : ¬ (fun b => ¬ b = r ∧ ¬ b = g) g := fun h => h.2 rfl
attribute [local go_sem ↓] zeroRef
set_option maxHeartbeats 8000000 in
theorem regsPlay_law (lA : Option Addr) (L : List ActC) (lC : Nat) (aA : Option Addr) (aC : Nat) (a : Rg) (bA : Option Addr) (bC : Nat) (b : Rg) (w : World) (hl : CameActs w lA lC L) (ha : Came w aA aC a.d) (hb : Came w bA bC b.d) :
    Calls Try.prog 3 #[.slice lA L.length lC, .agg #[.slice aA a.d.length aC, .bool a.whole], .agg #[.slice bA b.d.length bC, .bool b.whole]] w fun e w' => e = .returned (.bool true) ∧ Grows w w' := by
  have hLL := Lib.hid hl
  have hA := Lib.hid ha
  have hB := Lib.hid hb
  have hln := hl.len
  clear hl ha hb
  have hin : Hid (∀ w', Grows w w' → CameActs w' lA lC L) := Lib.hid (fun w' hg => ⟨hLL.out.rd.grows hg, hLL.out.len, fun s hs => ⟨(hLL.out.each s hs).kind, (hLL.out.each s hs).letter, (hLL.out.each s hs).came.grows hg⟩⟩)
  by_cases hbig : bigA L 60 = true ∨ bigL a.d 20 = true ∨ bigL b.d 20 = true
  · cases h1 : bigA L 60 with
    | true =>
      have H1 := Lib.hid h1
      clear h1 hbig
      go_enter Try.func3, Try.ntmps3
      go_wp2_with fail
      (with_reducible refine (beyond_any lA lC L 60 60 rfl _ (hin.out _ (by repeat' first | exact Grows.refl _ | refine Grows.alloc ?_ _)) (by omega)).mono ?_)
      rw [H1.out]
      rintro e w1 ⟨rfl, rfl⟩
      go_wp2_with fail
      (with_reducible refine (lives_any _).mono ?_)
      rintro e w1 ⟨rfl, m1, rfl⟩
      go_wp2_with fail
      go_ret
      exact ⟨rfl, (by repeat' first | exact Grows.refl _ | refine Grows.more ?_ _ | refine Grows.alloc ?_ _ | refine Grows.drew ?_)⟩
    | false =>
      cases h2 : bigL a.d 20 with
      | true =>
        have H1 := Lib.hid h1
        have H2 := Lib.hid h2
        clear h1 h2 hbig
        go_enter Try.func3, Try.ntmps3
        go_wp2_with fail
        (with_reducible refine (beyond_any lA lC L 60 60 rfl _ (hin.out _ (by repeat' first | exact Grows.refl _ | refine Grows.alloc ?_ _)) (by omega)).mono ?_)
        rw [H1.out]
        rintro e w1 ⟨rfl, rfl⟩
        go_wp2_with fail
        (with_reducible refine (beyond20 aA aC a.d _ (hA.out.rd.grows (by repeat' first | exact Grows.refl _ | refine Grows.alloc ?_ _)) hA.out.len hA.out.each).mono ?_)
        rw [H2.out]
        rintro e w1 ⟨rfl, rfl⟩
        go_wp2_with fail
        (with_reducible refine (lives_any _).mono ?_)
        rintro e w1 ⟨rfl, m1, rfl⟩
        go_wp2_with fail
        go_ret
        exact ⟨rfl, (by repeat' first | exact Grows.refl _ | refine Grows.more ?_ _ | refine Grows.alloc ?_ _ | refine Grows.drew ?_)⟩
      | false =>
        have h3 : bigL b.d 20 = true := by simpa [h1, h2] using hbig
        have H1 := Lib.hid h1
        have H2 := Lib.hid h2
        have H3 := Lib.hid h3
        clear h1 h2 h3 hbig
        go_enter Try.func3, Try.ntmps3
        go_wp2_with fail
        (with_reducible refine (beyond_any lA lC L 60 60 rfl _ (hin.out _ (by repeat' first | exact Grows.refl _ | refine Grows.alloc ?_ _)) (by omega)).mono ?_)
        rw [H1.out]
        rintro e w1 ⟨rfl, rfl⟩
        go_wp2_with fail
        (with_reducible refine (beyond20 aA aC a.d _ (hA.out.rd.grows (by repeat' first | exact Grows.refl _ | refine Grows.alloc ?_ _)) hA.out.len hA.out.each).mono ?_)
        rw [H2.out]
        rintro e w1 ⟨rfl, rfl⟩
        go_wp2_with fail
        (with_reducible refine (beyond20 bA bC b.d _ (hB.out.rd.grows (by repeat' first | exact Grows.refl _ | refine Grows.alloc ?_ _)) hB.out.len hB.out.each).mono ?_)
        rw [H3.out]
        rintro e w1 ⟨rfl, rfl⟩
        go_wp2_with fail
        (with_reducible refine (lives_any _).mono ?_)
        rintro e w1 ⟨rfl, m1, rfl⟩
        go_wp2_with fail
        go_ret
        exact ⟨rfl, (by repeat' first | exact Grows.refl _ | refine Grows.more ?_ _ | refine Grows.alloc ?_ _ | refine Grows.drew ?_)⟩
  · have h60 : bigA L 60 = false := by cases h : bigA L 60 <;> simp_all
    have ha20 : bigL a.d 20 = false := by cases h : bigL a.d 20 <;> simp_all
    have hb20 : bigL b.d 20 = false := by cases h : bigL b.d 20 <;> simp_all
    clear hbig
    have H60 := Lib.hid h60
    have HA20 := Lib.hid ha20
    have HB20 := Lib.hid hb20
    have hL60 := Lib.hid (bigA_no h60)
    have hla := (bigL_no ha20)
    have hlb := (bigL_no hb20)
    have hfa : a.fits := ⟨by have := hla.1; omega, fun s hs => by have := hla.2 s hs; omega⟩
    have hfb : b.fits := ⟨by have := hlb.1; omega, fun s hs => by have := hlb.2 s hs; omega⟩
    have hFA := Lib.hid hfa
    have hFB := Lib.hid hfb
    clear h60 ha20 hb20 hla hlb hfa hfb
    go_enter Try.func3, Try.ntmps3
    go_wp2_with fail
    (with_reducible refine (beyond_any lA lC L 60 60 rfl _ (hin.out _ (by repeat' first | exact Grows.refl _ | refine Grows.alloc ?_ _)) (by omega)).mono ?_)
    rw [H60.out]
    rintro e w1 ⟨rfl, rfl⟩
    go_wp2_with fail
    (with_reducible refine (beyond20 aA aC a.d _ (hA.out.rd.grows (by repeat' first | exact Grows.refl _ | refine Grows.alloc ?_ _)) hA.out.len hA.out.each).mono ?_)
    rw [HA20.out]
    rintro e w1 ⟨rfl, rfl⟩
    go_wp2_with fail
    (with_reducible refine (beyond20 bA bC b.d _ (hB.out.rd.grows (by repeat' first | exact Grows.refl _ | refine Grows.alloc ?_ _)) hB.out.len hB.out.each).mono ?_)
    rw [HB20.out]
    rintro e w1 ⟨rfl, rfl⟩
    go_wp2_with fail
    (with_reducible refine (new_any _).mono ?_)
    rintro e w1 ⟨rfl, hw1⟩
    have hR1 : Hid (Regs (fun b => ¬ b = w.heap.size + 1 + 1 ∧ ¬ b = w1.heap.size) w1 (w.heap.size + 1 + 1 + 1) (w.heap.size + 1 + 1) rs0) := Lib.hid (by
      rw [hw1]
      have := regs_new ((w.alloc (.cells #[.slice aA a.d.length aC, .bool a.whole] 25)).alloc (.cells #[.slice bA b.d.length bC, .bool b.whole] 25)) (fun q => ¬ q = w.heap.size + 1 + 1 ∧ ¬ q = ((((w.alloc (.cells #[.slice aA a.d.length aC, .bool a.whole] 25)).alloc (.cells #[.slice bA b.d.length bC, .bool b.whole] 25)).alloc (.map #[] 0)).alloc (.cells #[.map (some ((w.alloc (.cells #[.slice aA a.d.length aC, .bool a.whole] 25)).alloc (.cells #[.slice bA b.d.length bC, .bool b.whole] 25)).heap.size)] 53)).heap.size)
      simpa using this)
    have hs1 : w1.heap.size = w.heap.size + 4 := by rw [hw1]; simp
    have hG1 : Hid (Grows w w1) := Lib.hid (by rw [hw1]; exact (by repeat' first | exact Grows.refl _ | refine Grows.more ?_ _ | refine Grows.alloc ?_ _ | refine Grows.drew ?_))
    have c40 : w1.cell? ⟨w.heap.size, 0, none⟩ = some (.slice aA a.d.length aC) := by rw [hw1]; simp [go_sem]
    have c41 : w1.cell? ⟨w.heap.size, 1, none⟩ = some (.bool a.whole) := by rw [hw1]; simp [go_sem]
    have c50 : w1.cell? ⟨w.heap.size + 1, 0, none⟩ = some (.slice bA b.d.length bC) := by rw [hw1]; simp [go_sem]
    have c51 : w1.cell? ⟨w.heap.size + 1, 1, none⟩ = some (.bool b.whole) := by rw [hw1]; simp [go_sem]
    have i4 : InHeap w.heap.size w1 := by rw [hw1]; simp [go_sem]
    have i5 : InHeap (w.heap.size + 1) w1 := by rw [hw1]; simp [go_sem]
    clear hw1
    have hK1 : Hid (RefIs (fun b => ¬ b = w.heap.size + 1 + 1 ∧ ¬ b = w1.heap.size) (w1.alloc (.cells ZR 35)) w1.heap.size rs0) := Lib.hid (ref_new w1 _ _ rfl)
    have HS1 := Lib.hid hs1
    clear hs1
    go_wp2_with fail
    have hs1 := HS1.out
    have hR2 := Lib.hid (hR1.out.grows ((Grows.refl w1).alloc (.cells ZR 35)))
    have hG2 := Lib.hid (hG1.out.trans ((Grows.refl w1).alloc (.cells ZR 35)))
    have hC2 := Chg.of_grows (p := fun _ => False) ((Grows.refl w1).alloc (.cells ZR 35))
    have d40 := (hC2.cell (a := ⟨w.heap.size, 0, none⟩) i4 (fun h => h)).trans c40
    have d41 := (hC2.cell (a := ⟨w.heap.size, 1, none⟩) i4 (fun h => h)).trans c41
    have d50 := (hC2.cell (a := ⟨w.heap.size + 1, 0, none⟩) i5 (fun h => h)).trans c50
    have d51 := (hC2.cell (a := ⟨w.heap.size + 1, 1, none⟩) i5 (fun h => h)).trans c51
    have hs2 : (w1.alloc (.cells ZR 35)).heap.size = w.heap.size + 5 := by simp; omega
    clear hC2 c40 c41 c50 c51 i4 i5 hR1 hG1
    generalize w1.alloc (.cells ZR 35) = W2 at *
    obtain ⟨g, hg⟩ : ∃ g, w1.heap.size = g := ⟨_, rfl⟩
    obtain ⟨p, hp⟩ : ∃ p, w.heap.size + 1 + 1 + 1 = p := ⟨_, rfl⟩
    obtain ⟨r, hr⟩ : ∃ r, w.heap.size + 1 + 1 = r := ⟨_, rfl⟩
    rw [hg] at hs1
    rw [hg, hp, hr] at hR2
    rw [hg, hr] at hK1
    rw [hg, hp]
    have HN : Hid (r = w.heap.size + 2 ∧ p = w.heap.size + 3 ∧ g = w.heap.size + 4 ∧ W2.heap.size = w.heap.size + 5) := Lib.hid ⟨by omega, by omega, by omega, hs2⟩
    clear hg hp hr hs1 hs2 HS1
    have hCw : Hid (Chg (fun b => b = r ∨ b = g) w W2) := Lib.hid (Chg.of_grows hG2.out)
    have hall : Hid (∀ wr, Chg (fun b => b = r ∨ b = g) W2 wr → CameActs wr lA lC L) := Lib.hid (fun wr hc => by
      have hc1 := hCw.out.trans hc
      have hn := HN.out
      have hlt : ∀ b, b < w.heap.size → ¬ (b = r ∨ b = g) := fun b hb h => by omega
      refine ⟨hLL.out.rd.chg hc1 fun h0 a e => ?_, hLL.out.len, fun s hs => ⟨(hLL.out.each s hs).kind, (hLL.out.each s hs).letter, ?_⟩⟩
      · obtain ⟨b0, o0, e2, hb0, _⟩ := hLL.out.rd.2 h0
        rw [e] at e2
        cases e2
        exact hlt _ hb0
      · have hm := (hLL.out.each s hs).came
        exact ⟨hm.rd.chg hc1 fun h0 a e => by
          obtain ⟨b0, o0, e2, hb0, _⟩ := hm.rd.2 h0
          rw [e] at e2
          cases e2
          exact hlt _ hb0, hm.nil, hm.len, hm.each, hm.le, hm.cap63⟩)
    go_loopg [9] L.length (fun q i wr => ∃ (k : Nat) (S : RS), q + k = L.length ∧ i = .int .i64 k ∧ Regs (fun b => ¬ b = r ∧ ¬ b = g) wr p r S ∧ RefIs (fun b => ¬ b = r ∧ ¬ b = g) wr g S ∧ Chg (fun b => b = r ∨ b = g) W2 wr)
    case atStart => exact ⟨0, rs0, by omega, rfl, hR2.out, hK1.out, Chg.refl _ _⟩
    case round =>
      obtain ⟨k, S, hq, rfl, hr1, hk1, hc1⟩ := hrel
      have hQ := Lib.hid hq
      have HR := Lib.hid hr1
      have HK := Lib.hid hk1
      have HC := Lib.hid hc1
      have hkl : k ≤ L.length := by omega
      have hsz := hc1.size
      have hrl : r < wr.heap.size := by have := HN.out; omega
      have hgl : g < wr.heap.size := by have := HN.out; omega
      clear hr1 hk1 hc1 hq
      by_cases h1 : k < L.length
      · have hLw := hall.out wr HC.out
        obtain ⟨b0, o0, rfl, hb0, e0, e1, e2, e3⟩ := hLw.rd.act k h1
        have hb0 : InHeap b0 wr := hb0
        have hact := Lib.hid (hLw.each _ (List.getElem_mem h1))
        have hfx := hL60.out.2 _ (List.getElem_mem h1)
        have k0 : (0 : Int) ≤ (k : Int) := by omega
        have k1 : (k : Int) < (L.length : Int) := by omega
        clear hLw
        obtain ⟨n, hn⟩ : ∃ n : Nat, L[k].kind = n := ⟨L[k].kind.toNat, by have := hact.out.kind; omega⟩
        obtain ⟨c, hc⟩ : ∃ c : Nat, L[k].letter = c := ⟨L[k].letter.toNat, by have := hact.out.letter; omega⟩
        have hc9 : c < 256 := by have := hact.out.letter; omega
        rw [hn] at e0
        rw [hc] at e1
        have hX : Hid (LRd (fun b => ¬ b = r ∧ ¬ b = g) wr L[k].A L[k].cap L[k].x.d) := Lib.hid (by
          have h1 : LRd (fun b => ¬ b = r ∧ ¬ b = g) w L[k].A L[k].cap L[k].x.d := (lrd_in (hLL.out.each _ (List.getElem_mem h1)).came).mono fun b _ hb => by have := HN.out; omega
          exact h1.chg (hCw.out.trans HC.out) fun b _ h e => by omega)
        have hft : Hid (L[k].x.fits) := Lib.hid ⟨by have := hfx.1; omega, fun s hs => by have := hfx.2 s hs; omega⟩
        have hok : Hid (∀ b, wr.heap.size ≤ b → ¬ b = r ∧ ¬ b = g) := Lib.hid (fun b h => by omega)
        have n1 : ¬ wr.heap.size = r := by omega
        have n2 : ¬ wr.heap.size = g := by omega
        have hrg : Hid (¬ g = r ∧ ¬ p = g) := Lib.hid (by have := HN.out; omega)
        have hnr : Hid (¬ (¬ r = r ∧ ¬ r = g)) := Lib.hid (fun h => h.1 rfl)
        have hng : Hid (¬ (¬ g = r ∧ ¬ g = g)) := Lib.hid (fun h => h.2 rfl)
        clear hfx hn hc
        by_cases t0 : n % 4 = 0
        · have t0' : ((n : Int) % 4 == 0) = true := by rw [beq_iff_eq]; omega
          clear t0
          go_wp2_with fail
          go_region_held3 (fun w' => w'.cell? ⟨wr.heap.size, 1, none⟩ = some (.int .u8 c) ∧ w'.cell? ⟨wr.heap.size, 2, none⟩ = some (.slice L[k].A L[k].x.d.length L[k].cap) ∧ w'.cell? ⟨wr.heap.size, 3, none⟩ = some (.bool L[k].x.whole))
            (first | (simp [go_sem, v1, v2, v3]; done) | (simp [go_sem, u1, u2, u3]; done) | (simp [go_sem]; done))
            (first | (go_at_call 11; (refine Calls.mono (set_lit (ok := (fun b => ¬ b = r ∧ ¬ b = g)) (okx := (fun b => ¬ b = r ∧ ¬ b = g)) p r S c c rfl L[k].A _ L[k].cap _ L[k].x rfl rfl _ (HR.out.grows ?_) (hX.out.grows ?_) hft.out ?_ (nnr2 r g)) ?_); (repeat' first | exact Grows.refl _ | refine Grows.more ?_ _ | refine Grows.alloc ?_ _ | refine Grows.drew ?_); (intro b h; exact hok.out b (by first | exact h | (simp at h; omega))); rintro e w2 ⟨rfl, hc2, hr2⟩; have hsz2 := hc2.size; have u1 := (hc2.cell (a := ⟨wr.heap.size, 1, none⟩) (by simp) n1).trans (by simp [go_sem] : _ = some (Value.int .u8 c)); have u2 := (hc2.cell (a := ⟨wr.heap.size, 2, none⟩) (by simp) n1).trans (by simp [go_sem] : _ = some (Value.slice L[k].A L[k].x.d.length L[k].cap)); have u3 := (hc2.cell (a := ⟨wr.heap.size, 3, none⟩) (by simp) n1).trans (by simp [go_sem] : _ = some (Value.bool L[k].x.whole)); have hR2 := Lib.hid hr2; have hK2 : Hid (RefIs (fun b => ¬ b = r ∧ ¬ b = g) w2 g S) := Lib.hid ((HK.out.grows (by repeat' first | exact Grows.refl _ | refine Grows.more ?_ _ | refine Grows.alloc ?_ _ | refine Grows.drew ?_)).chg hc2 hrg.out.1 (fun b _ h => h.1)); have hX2 : Hid (LRd (fun b => ¬ b = r ∧ ¬ b = g) w2 L[k].A L[k].cap L[k].x.d) := Lib.hid ((hX.out.grows (by repeat' first | exact Grows.refl _ | refine Grows.more ?_ _ | refine Grows.alloc ?_ _ | refine Grows.drew ?_)).chg hc2 (fun b _ h => h.1)); have hC2 : Hid (Chg (fun b => b = r ∨ b = g) W2 w2) := Lib.hid ((HC.out.trans (Chg.of_grows (by repeat' first | exact Grows.refl _ | refine Grows.more ?_ _ | refine Grows.alloc ?_ _ | refine Grows.drew ?_))).trans (hc2.mono fun b _ h => .inl h)); have hok2 : Hid (∀ b, w2.heap.size ≤ b → ¬ b = r ∧ ¬ b = g) := Lib.hid (fun b h => hok.out b (by simp at hsz2; omega)); have ib : InHeap (wr.heap.size) w2 := (by simp at hsz2; exact Nat.lt_of_lt_of_le (by omega) hsz2); clear hc2 hr2 hsz2) | (go_at_call 12; (refine Calls.mono (refSet_lit (ok := (fun b => ¬ b = r ∧ ¬ b = g)) (okx := (fun b => ¬ b = r ∧ ¬ b = g)) g S c c rfl L[k].A L[k].cap L[k].x _ (hK2.out.grows ?_) (hX2.out.grows ?_) hft.out ?_ (nng2 r g) (fun b h => h.2) hc9) ?_); (repeat' first | exact Grows.refl _ | refine Grows.more ?_ _ | refine Grows.alloc ?_ _ | refine Grows.drew ?_); (intro b h; exact hok2.out b (by first | exact h | (simp at h; omega))); rintro e w3 ⟨rfl, hc3, hk3⟩; have hK3 := Lib.hid hk3; have hR3 : Hid (Regs (fun b => ¬ b = r ∧ ¬ b = g) w3 p r (rset S c L[k].x).1) := Lib.hid ((hR2.out.grows (by repeat' first | exact Grows.refl _ | refine Grows.more ?_ _ | refine Grows.alloc ?_ _ | refine Grows.drew ?_)).chg hc3 (fun e => hrg.out.1 e.symm) hrg.out.2 (fun b _ h => h.2)); have hC3 : Hid (Chg (fun b => b = r ∨ b = g) W2 w3) := Lib.hid ((hC2.out.trans (Chg.of_grows (by repeat' first | exact Grows.refl _ | refine Grows.more ?_ _ | refine Grows.alloc ?_ _ | refine Grows.drew ?_))).trans (hc3.mono fun b _ h => .inr h)); have v1 := (hc3.cell (a := ⟨wr.heap.size, 1, none⟩) (by first | exact ib | (simp [go_sem, ib]; done)) n2); have v2 := (hc3.cell (a := ⟨wr.heap.size, 2, none⟩) (by first | exact ib | (simp [go_sem, ib]; done)) n2).trans (by first | exact u2 | (simp [go_sem, u2, ib]; done) : _ = some (Value.slice L[k].A L[k].x.d.length L[k].cap)); have v3 := (hc3.cell (a := ⟨wr.heap.size, 3, none⟩) (by first | exact ib | (simp [go_sem, ib]; done)) n2).trans (by first | exact u3 | (simp [go_sem, u3, ib]; done) : _ = some (Value.bool L[k].x.whole)); have v1 := v1.trans (by first | exact u1 | (simp [go_sem, u1, ib]; done) : _ = some (Value.int .u8 c)); clear hc3 hk3))
          go_wp2_with fail
          (with_reducible refine (sameRegs_any p r g (rset S c L[k].x).1 _ (hR3.out.grows (by repeat' first | exact Grows.refl _ | refine Grows.more ?_ _ | refine Grows.alloc ?_ _ | refine Grows.drew ?_)) (hK3.out.grows (by repeat' first | exact Grows.refl _ | refine Grows.more ?_ _ | refine Grows.alloc ?_ _ | refine Grows.drew ?_))).mono ?_)
          rintro e w4 ⟨rfl, m4, rfl⟩
          go_wp2_with fail
          go_roundg (gk - 1)
          case measure => have := hQ.out; omega
          case rel => exact ⟨k + 1, (rset S c L[k].x).1, by have := hQ.out; omega, by go_num, hR3.out.grows (by repeat' first | exact Grows.refl _ | refine Grows.more ?_ _ | refine Grows.alloc ?_ _ | refine Grows.drew ?_), hK3.out.grows (by repeat' first | exact Grows.refl _ | refine Grows.more ?_ _ | refine Grows.alloc ?_ _ | refine Grows.drew ?_), hC3.out.trans (Chg.of_grows (by repeat' first | exact Grows.refl _ | refine Grows.more ?_ _ | refine Grows.alloc ?_ _ | refine Grows.drew ?_))⟩
        by_cases t1 : n % 4 = 1
        · have t0' : ((n : Int) % 4 == 0) = false := by rw [beq_eq_false_iff_ne]; omega
          have t1' : ((n : Int) % 4 == 1) = true := by rw [beq_iff_eq]; omega
          clear t0 t1
          go_wp2_with fail
          go_region_held3 (fun w' => w'.cell? ⟨wr.heap.size, 1, none⟩ = some (.int .u8 c) ∧ w'.cell? ⟨wr.heap.size, 2, none⟩ = some (.slice L[k].A L[k].x.d.length L[k].cap) ∧ w'.cell? ⟨wr.heap.size, 3, none⟩ = some (.bool L[k].x.whole))
            (first | (simp [go_sem, v1, v2, v3]; done) | (simp [go_sem, u1, u2, u3]; done) | (simp [go_sem]; done))
            (first | (go_at_call 11; (refine Calls.mono (set_lit (ok := (fun b => ¬ b = r ∧ ¬ b = g)) (okx := (fun b => ¬ b = r ∧ ¬ b = g)) p r S c c rfl L[k].A _ L[k].cap _ L[k].x rfl rfl _ (HR.out.grows ?_) (hX.out.grows ?_) hft.out ?_ (nnr2 r g)) ?_); (repeat' first | exact Grows.refl _ | refine Grows.more ?_ _ | refine Grows.alloc ?_ _ | refine Grows.drew ?_); (intro b h; exact hok.out b (by first | exact h | (simp at h; omega))); rintro e w2 ⟨rfl, hc2, hr2⟩; have hsz2 := hc2.size; have u1 := (hc2.cell (a := ⟨wr.heap.size, 1, none⟩) (by simp) n1).trans (by simp [go_sem] : _ = some (Value.int .u8 c)); have u2 := (hc2.cell (a := ⟨wr.heap.size, 2, none⟩) (by simp) n1).trans (by simp [go_sem] : _ = some (Value.slice L[k].A L[k].x.d.length L[k].cap)); have u3 := (hc2.cell (a := ⟨wr.heap.size, 3, none⟩) (by simp) n1).trans (by simp [go_sem] : _ = some (Value.bool L[k].x.whole)); have hR2 := Lib.hid hr2; have hK2 : Hid (RefIs (fun b => ¬ b = r ∧ ¬ b = g) w2 g S) := Lib.hid ((HK.out.grows (by repeat' first | exact Grows.refl _ | refine Grows.more ?_ _ | refine Grows.alloc ?_ _ | refine Grows.drew ?_)).chg hc2 hrg.out.1 (fun b _ h => h.1)); have hX2 : Hid (LRd (fun b => ¬ b = r ∧ ¬ b = g) w2 L[k].A L[k].cap L[k].x.d) := Lib.hid ((hX.out.grows (by repeat' first | exact Grows.refl _ | refine Grows.more ?_ _ | refine Grows.alloc ?_ _ | refine Grows.drew ?_)).chg hc2 (fun b _ h => h.1)); have hC2 : Hid (Chg (fun b => b = r ∨ b = g) W2 w2) := Lib.hid ((HC.out.trans (Chg.of_grows (by repeat' first | exact Grows.refl _ | refine Grows.more ?_ _ | refine Grows.alloc ?_ _ | refine Grows.drew ?_))).trans (hc2.mono fun b _ h => .inl h)); have hok2 : Hid (∀ b, w2.heap.size ≤ b → ¬ b = r ∧ ¬ b = g) := Lib.hid (fun b h => hok.out b (by simp at hsz2; omega)); have ib : InHeap (wr.heap.size) w2 := (by simp at hsz2; exact Nat.lt_of_lt_of_le (by omega) hsz2); clear hc2 hr2 hsz2) | (go_at_call 12; (refine Calls.mono (refSet_lit (ok := (fun b => ¬ b = r ∧ ¬ b = g)) (okx := (fun b => ¬ b = r ∧ ¬ b = g)) g S c c rfl L[k].A L[k].cap L[k].x _ (hK2.out.grows ?_) (hX2.out.grows ?_) hft.out ?_ (nng2 r g) (fun b h => h.2) hc9) ?_); (repeat' first | exact Grows.refl _ | refine Grows.more ?_ _ | refine Grows.alloc ?_ _ | refine Grows.drew ?_); (intro b h; exact hok2.out b (by first | exact h | (simp at h; omega))); rintro e w3 ⟨rfl, hc3, hk3⟩; have hK3 := Lib.hid hk3; have hR3 : Hid (Regs (fun b => ¬ b = r ∧ ¬ b = g) w3 p r (rset S c L[k].x).1) := Lib.hid ((hR2.out.grows (by repeat' first | exact Grows.refl _ | refine Grows.more ?_ _ | refine Grows.alloc ?_ _ | refine Grows.drew ?_)).chg hc3 (fun e => hrg.out.1 e.symm) hrg.out.2 (fun b _ h => h.2)); have hC3 : Hid (Chg (fun b => b = r ∨ b = g) W2 w3) := Lib.hid ((hC2.out.trans (Chg.of_grows (by repeat' first | exact Grows.refl _ | refine Grows.more ?_ _ | refine Grows.alloc ?_ _ | refine Grows.drew ?_))).trans (hc3.mono fun b _ h => .inr h)); have v1 := (hc3.cell (a := ⟨wr.heap.size, 1, none⟩) (by first | exact ib | (simp [go_sem, ib]; done)) n2); have v2 := (hc3.cell (a := ⟨wr.heap.size, 2, none⟩) (by first | exact ib | (simp [go_sem, ib]; done)) n2).trans (by first | exact u2 | (simp [go_sem, u2, ib]; done) : _ = some (Value.slice L[k].A L[k].x.d.length L[k].cap)); have v3 := (hc3.cell (a := ⟨wr.heap.size, 3, none⟩) (by first | exact ib | (simp [go_sem, ib]; done)) n2).trans (by first | exact u3 | (simp [go_sem, u3, ib]; done) : _ = some (Value.bool L[k].x.whole)); have v1 := v1.trans (by first | exact u1 | (simp [go_sem, u1, ib]; done) : _ = some (Value.int .u8 c)); clear hc3 hk3))
          go_wp2_with fail
          (with_reducible refine (sameRegs_any p r g (rset S c L[k].x).1 _ (hR3.out.grows (by repeat' first | exact Grows.refl _ | refine Grows.more ?_ _ | refine Grows.alloc ?_ _ | refine Grows.drew ?_)) (hK3.out.grows (by repeat' first | exact Grows.refl _ | refine Grows.more ?_ _ | refine Grows.alloc ?_ _ | refine Grows.drew ?_))).mono ?_)
          rintro e w4 ⟨rfl, m4, rfl⟩
          go_wp2_with fail
          go_roundg (gk - 1)
          case measure => have := hQ.out; omega
          case rel => exact ⟨k + 1, (rset S c L[k].x).1, by have := hQ.out; omega, by go_num, hR3.out.grows (by repeat' first | exact Grows.refl _ | refine Grows.more ?_ _ | refine Grows.alloc ?_ _ | refine Grows.drew ?_), hK3.out.grows (by repeat' first | exact Grows.refl _ | refine Grows.more ?_ _ | refine Grows.alloc ?_ _ | refine Grows.drew ?_), hC3.out.trans (Chg.of_grows (by repeat' first | exact Grows.refl _ | refine Grows.more ?_ _ | refine Grows.alloc ?_ _ | refine Grows.drew ?_))⟩
        by_cases t2 : n % 4 = 2
        · have t0' : ((n : Int) % 4 == 0) = false := by rw [beq_eq_false_iff_ne]; omega
          have t1' : ((n : Int) % 4 == 1) = false := by rw [beq_eq_false_iff_ne]; omega
          have t2' : ((n : Int) % 4 == 2) = true := by rw [beq_iff_eq]; omega
          clear t0 t1 t2
          go_wp2_with fail
          go_region_held3 (fun w' => w'.cell? ⟨wr.heap.size, 2, none⟩ = some (.slice L[k].A L[k].x.d.length L[k].cap) ∧ w'.cell? ⟨wr.heap.size, 3, none⟩ = some (.bool L[k].x.whole))
            (first | (simp [go_sem, v2, v3]; done) | (simp [go_sem, u2, u3]; done) | (simp [go_sem]; done))
            (first | (go_at_call 13; (refine Calls.mono (push_lit (ok := (fun b => ¬ b = r ∧ ¬ b = g)) (okx := (fun b => ¬ b = r ∧ ¬ b = g)) p r S L[k].A _ L[k].cap _ L[k].x rfl rfl _ (HR.out.grows ?_) (hX.out.grows ?_) hft.out ?_ (nnr2 r g) (fun b h => h.1)) ?_); (repeat' first | exact Grows.refl _ | refine Grows.more ?_ _ | refine Grows.alloc ?_ _ | refine Grows.drew ?_); (intro b h; exact hok.out b (by first | exact h | (simp at h; omega))); rintro e w2 ⟨rfl, hc2, hr2⟩; have hsz2 := hc2.size; have u1 := (hc2.cell (a := ⟨wr.heap.size, 1, none⟩) (by simp) n1).trans (by simp [go_sem] : _ = some (Value.int .u8 c)); have u2 := (hc2.cell (a := ⟨wr.heap.size, 2, none⟩) (by simp) n1).trans (by simp [go_sem] : _ = some (Value.slice L[k].A L[k].x.d.length L[k].cap)); have u3 := (hc2.cell (a := ⟨wr.heap.size, 3, none⟩) (by simp) n1).trans (by simp [go_sem] : _ = some (Value.bool L[k].x.whole)); have hR2 := Lib.hid hr2; have hK2 : Hid (RefIs (fun b => ¬ b = r ∧ ¬ b = g) w2 g S) := Lib.hid ((HK.out.grows (by repeat' first | exact Grows.refl _ | refine Grows.more ?_ _ | refine Grows.alloc ?_ _ | refine Grows.drew ?_)).chg hc2 hrg.out.1 (fun b _ h => h.1)); have hX2 : Hid (LRd (fun b => ¬ b = r ∧ ¬ b = g) w2 L[k].A L[k].cap L[k].x.d) := Lib.hid ((hX.out.grows (by repeat' first | exact Grows.refl _ | refine Grows.more ?_ _ | refine Grows.alloc ?_ _ | refine Grows.drew ?_)).chg hc2 (fun b _ h => h.1)); have hC2 : Hid (Chg (fun b => b = r ∨ b = g) W2 w2) := Lib.hid ((HC.out.trans (Chg.of_grows (by repeat' first | exact Grows.refl _ | refine Grows.more ?_ _ | refine Grows.alloc ?_ _ | refine Grows.drew ?_))).trans (hc2.mono fun b _ h => .inl h)); have hok2 : Hid (∀ b, w2.heap.size ≤ b → ¬ b = r ∧ ¬ b = g) := Lib.hid (fun b h => hok.out b (by simp at hsz2; omega)); have ib : InHeap (wr.heap.size) w2 := (by simp at hsz2; exact Nat.lt_of_lt_of_le (by omega) hsz2); clear hc2 hr2 hsz2) | (go_at_call 14; (refine Calls.mono (refPush_any (ok := (fun b => ¬ b = r ∧ ¬ b = g)) (okx := (fun b => ¬ b = r ∧ ¬ b = g)) g S L[k].A L[k].cap L[k].x _ (hK2.out.grows ?_) (hX2.out.grows ?_) hft.out ?_ (nng2 r g) (fun b h => h.2)) ?_); (repeat' first | exact Grows.refl _ | refine Grows.more ?_ _ | refine Grows.alloc ?_ _ | refine Grows.drew ?_); (intro b h; exact hok2.out b (by first | exact h | (simp at h; omega))); rintro e w3 ⟨rfl, hc3, hk3⟩; have hK3 := Lib.hid hk3; have hR3 : Hid (Regs (fun b => ¬ b = r ∧ ¬ b = g) w3 p r (rpush S L[k].x).1) := Lib.hid ((hR2.out.grows (by repeat' first | exact Grows.refl _ | refine Grows.more ?_ _ | refine Grows.alloc ?_ _ | refine Grows.drew ?_)).chg hc3 (fun e => hrg.out.1 e.symm) hrg.out.2 (fun b _ h => h.2)); have hC3 : Hid (Chg (fun b => b = r ∨ b = g) W2 w3) := Lib.hid ((hC2.out.trans (Chg.of_grows (by repeat' first | exact Grows.refl _ | refine Grows.more ?_ _ | refine Grows.alloc ?_ _ | refine Grows.drew ?_))).trans (hc3.mono fun b _ h => .inr h)); have v1 := (hc3.cell (a := ⟨wr.heap.size, 1, none⟩) (by first | exact ib | (simp [go_sem, ib]; done)) n2); have v2 := (hc3.cell (a := ⟨wr.heap.size, 2, none⟩) (by first | exact ib | (simp [go_sem, ib]; done)) n2).trans (by first | exact u2 | (simp [go_sem, u2, ib]; done) : _ = some (Value.slice L[k].A L[k].x.d.length L[k].cap)); have v3 := (hc3.cell (a := ⟨wr.heap.size, 3, none⟩) (by first | exact ib | (simp [go_sem, ib]; done)) n2).trans (by first | exact u3 | (simp [go_sem, u3, ib]; done) : _ = some (Value.bool L[k].x.whole)); clear hc3 hk3))
          go_wp2_with fail
          (with_reducible refine (sameRegs_any p r g (rpush S L[k].x).1 _ (hR3.out.grows (by repeat' first | exact Grows.refl _ | refine Grows.more ?_ _ | refine Grows.alloc ?_ _ | refine Grows.drew ?_)) (hK3.out.grows (by repeat' first | exact Grows.refl _ | refine Grows.more ?_ _ | refine Grows.alloc ?_ _ | refine Grows.drew ?_))).mono ?_)
          rintro e w4 ⟨rfl, m4, rfl⟩
          go_wp2_with fail
          go_roundg (gk - 1)
          case measure => have := hQ.out; omega
          case rel => exact ⟨k + 1, (rpush S L[k].x).1, by have := hQ.out; omega, by go_num, hR3.out.grows (by repeat' first | exact Grows.refl _ | refine Grows.more ?_ _ | refine Grows.alloc ?_ _ | refine Grows.drew ?_), hK3.out.grows (by repeat' first | exact Grows.refl _ | refine Grows.more ?_ _ | refine Grows.alloc ?_ _ | refine Grows.drew ?_), hC3.out.trans (Chg.of_grows (by repeat' first | exact Grows.refl _ | refine Grows.more ?_ _ | refine Grows.alloc ?_ _ | refine Grows.drew ?_))⟩
        · have t0' : ((n : Int) % 4 == 0) = false := by rw [beq_eq_false_iff_ne]; omega
          have t1' : ((n : Int) % 4 == 1) = false := by rw [beq_eq_false_iff_ne]; omega
          have t2' : ((n : Int) % 4 == 2) = false := by rw [beq_eq_false_iff_ne]; omega
          clear t0 t1 t2
          have hR3 := HR
          have hK3 := HK
          have hC3 := HC
          go_wp2_with fail
          (with_reducible refine (sameRegs_any p r g S _ (hR3.out.grows (by repeat' first | exact Grows.refl _ | refine Grows.more ?_ _ | refine Grows.alloc ?_ _ | refine Grows.drew ?_)) (hK3.out.grows (by repeat' first | exact Grows.refl _ | refine Grows.more ?_ _ | refine Grows.alloc ?_ _ | refine Grows.drew ?_))).mono ?_)
          rintro e w4 ⟨rfl, m4, rfl⟩
          go_wp2_with fail
          go_roundg (gk - 1)
          case measure => have := hQ.out; omega
          case rel => exact ⟨k + 1, S, by have := hQ.out; omega, by go_num, hR3.out.grows (by repeat' first | exact Grows.refl _ | refine Grows.more ?_ _ | refine Grows.alloc ?_ _ | refine Grows.drew ?_), hK3.out.grows (by repeat' first | exact Grows.refl _ | refine Grows.more ?_ _ | refine Grows.alloc ?_ _ | refine Grows.drew ?_), hC3.out.trans (Chg.of_grows (by repeat' first | exact Grows.refl _ | refine Grows.more ?_ _ | refine Grows.alloc ?_ _ | refine Grows.drew ?_))⟩
      · have hk : k = L.length := by omega
        subst hk
        have hlt : ∀ b, b < w.heap.size + 2 → ¬ (b = r ∨ b = g) := fun b hb h => by have := HN.out; omega
        have hz : w.heap.size + 2 ≤ W2.heap.size := by have := HN.out; omega
        have i4 : InHeap w.heap.size wr := Nat.lt_of_lt_of_le (by omega) HC.out.size
        have i5 : InHeap (w.heap.size + 1) wr := Nat.lt_of_lt_of_le (by omega) HC.out.size
        have q40 := (HC.out.cell (a := ⟨w.heap.size, 0, none⟩) (by simp; omega) (hlt _ (by simp))).trans d40
        have q41 := (HC.out.cell (a := ⟨w.heap.size, 1, none⟩) (by simp; omega) (hlt _ (by simp))).trans d41
        have q50 := (HC.out.cell (a := ⟨w.heap.size + 1, 0, none⟩) (by simp; omega) (hlt _ (by simp))).trans d50
        have q51 := (HC.out.cell (a := ⟨w.heap.size + 1, 1, none⟩) (by simp; omega) (hlt _ (by simp))).trans d51
        have hLa : Hid (LRd (fun b => b < w.heap.size) wr aA aC a.d) := Lib.hid ((lrd_in hA.out).chg (hCw.out.trans HC.out) fun b _ h e => hlt b (by omega) e)
        have hLb : Hid (LRd (fun b => b < w.heap.size) wr bA bC b.d) := Lib.hid ((lrd_in hB.out).chg (hCw.out.trans HC.out) fun b _ h e => hlt b (by omega) e)
        have hFa : Hid (a.d.length ≤ 4000 ∧ ∀ s ∈ a.d, s.length ≤ 4000) := Lib.hid ⟨hFA.out.len, hFA.out.each⟩
        have hFb : Hid (b.d.length ≤ 4000 ∧ ∀ s ∈ b.d, s.length ≤ 4000) := Lib.hid ⟨hFB.out.len, hFB.out.each⟩
        have hJl : Hid ((rjoin a b).d.length ≤ 1000000) := Lib.hid (by have := (rjoin_fits a b (by have := bigL_no HA20.out; exact ⟨by omega, fun s hs => by have := this.2 s hs; omega⟩) (by have := bigL_no HB20.out; exact ⟨by omega, fun s hs => by have := this.2 s hs; omega⟩)).len; omega)
        have hGr : Hid (Grows w wr) := Lib.hid (Chg.grows (n := 0) hG2.out HC.out fun b h => by have := HN.out; omega)
        clear d40 d41 d50 d51 hlt hz
        go_wp2_with fail
        go_region_held3 (fun w' => w'.cell? ⟨w.heap.size, 0, none⟩ = some (.slice aA a.d.length aC) ∧ w'.cell? ⟨w.heap.size, 1, none⟩ = some (.bool a.whole) ∧ w'.cell? ⟨w.heap.size + 1, 0, none⟩ = some (.slice bA b.d.length bC) ∧ w'.cell? ⟨w.heap.size + 1, 1, none⟩ = some (.bool b.whole))
          (first | (simp [go_sem, i4, i5, q40, q41, q50, q51]; done))
          (first | (go_at_call 17; (refine Calls.mono (join_any aA bA aC bC a b _ (hLa.out.grows ?_) (hLb.out.grows ?_) hFa.out hFb.out) ?_); (repeat' first | exact Grows.refl _ | refine Grows.more ?_ _ | refine Grows.alloc ?_ _ | refine Grows.drew ?_); rintro e w2 ⟨A1, c1, rfl, hJ1, m2, rfl⟩; have hJ1 := Lib.hid hJ1) | (go_at_call 18; (refine Calls.mono (refJoin_any aA bA aC bC a b _ (hLa.out.grows ?_) (hLb.out.grows ?_) hFa.out hFb.out) ?_); (repeat' first | exact Grows.refl _ | refine Grows.more ?_ _ | refine Grows.alloc ?_ _ | refine Grows.drew ?_); rintro e w3 ⟨A2, c2, rfl, hJ2, m3, rfl⟩; have hJ2 := Lib.hid hJ2) | (go_at_call 16; (refine Calls.mono (same_lit' (rjoin a b) A1 A2 c1 c2 _ (hJ1.out.grows ?_) (hJ2.out.grows ?_) hJl.out) ?_); (repeat' first | exact Grows.refl _ | refine Grows.more ?_ _ | refine Grows.alloc ?_ _ | refine Grows.drew ?_); rintro e w4 ⟨rfl, m4, rfl⟩) | (go_at_call 19; (refine Calls.mono (check_any aA aC a _ (hLa.out.grows ?_) hFA.out) ?_); (repeat' first | exact Grows.refl _ | refine Grows.more ?_ _ | refine Grows.alloc ?_ _ | refine Grows.drew ?_); rintro e w5 ⟨rfl, m5, rfl⟩) | (go_at_call 20; (refine Calls.mono (rcheckRef_any aA aC a _ (hLa.out.grows ?_) hFA.out) ?_); (repeat' first | exact Grows.refl _ | refine Grows.more ?_ _ | refine Grows.alloc ?_ _ | refine Grows.drew ?_); rintro e w6 ⟨rfl, m6, rfl⟩) | (go_at_call 9; (refine Calls.mono (lives_any _) ?_); rintro e w7 ⟨rfl, m7, rfl⟩))
        go_wp2_with fail
        go_ret
        exact ⟨rfl, hGr.out.trans (by repeat' first | exact Grows.refl _ | refine Grows.more ?_ _ | refine Grows.alloc ?_ _ | refine Grows.drew ?_)⟩
end Go.Proofs.Ytlhdbaaokgdabaa
