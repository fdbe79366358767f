/-
  Several texts of the proof: CoreRefNew, CorePlaysLaw.
-/
import Derived.Test.YthanghgfakibnaaPk41
import Derived.Test.YthanghgfakibnaaPk08
import Derived.Test.YthanghgfakibnaaPk47
/-
  Core: the document's New: the walk.
-/
namespace Go.Proofs.Ythanghgfakibnaa
open Go.RowKit

def bldStR (x : Array (Nat × Value)) : Sem Value := Instr.build 100 x
set_option maxRecDepth 3000 in
theorem bldStR_eq (x : Array (Nat × Value)) : Instr.build 100 x = bldStR x := rfl
set_option maxRecDepth 3000 in
theorem bldStR_run (w : World) (p : Option Addr) (m cap : Nat) (n : Int) : (bldStR #[(0, .slice p m cap), (1, .int .i64 n)]).run Try.prog w = .ok (.agg (stC (.slice p m cap) n zeros)) w := by kernel_rfl
def bldCoR (x : Array (Nat × Value)) : Sem Value := Instr.build 108 x
set_option maxRecDepth 3000 in
theorem bldCoR_eq (x : Array (Nat × Value)) : Instr.build 108 x = bldCoR x := rfl
set_option maxRecDepth 3000 in
theorem bldCoR_run (w : World) (p q : Option Addr) (m cap : Nat) (n : Int) : (bldCoR #[(0, .agg (stC (.slice p m cap) n zeros)), (2, .pointer q)]).run Try.prog w = .ok (.agg (coC (.slice p m cap) n zeros (.string ⟨#[]⟩) (.pointer q) (.bool false) (.pointer none) (.pointer none) (.pointer none) (.slice none 0 0))) w := by kernel_rfl
def bldReR (x : Array (Nat × Value)) : Sem Value := Instr.build 105 x
set_option maxRecDepth 3000 in
theorem bldReR_eq (x : Array (Nat × Value)) : Instr.build 105 x = bldReR x := rfl
set_option maxRecDepth 3000 in
theorem bldReR_run (w : World) : (bldReR #[]).run Try.prog w = .ok (.agg ZR) w := by kernel_rfl
attribute [local go_sem ↓] bldStR_eq bldCoR_eq bldReR_eq
attribute [local go_sem] bldStR_run bldCoR_run bldReR_run
set_option maxRecDepth 3000 in
theorem new_finR {A1 : Option Addr} {c1 : Nat} {l : List (List UInt8)} {w w1 w2 : World} {base : Nat} {X : Nat → Prop} (t : TypeId) (hbase : base ≤ w.heap.size) (hX : ∀ b, X b → b < w.heap.size) (hXb : ∀ b, X b → base ≤ b) (h2 : l.length ≤ 2000) (hgw : Grows w w1) (hg12 : Grows w1 w2) (hs2 : w2.heap.size = w1.heap.size + 1)
    (hL : LRd (fun b => w.heap.size ≤ b) w1 A1 c1 l) (hR : ∀ ok : Nat → Prop, RefIs ok w2 w1.heap.size rs0) :
    ∃ g ok K, Ending.returned (.pointer (some ⟨w1.heap.size + 1, 0, none⟩)) = Ending.returned (.pointer (some ⟨g, 0, none⟩)) ∧ CoreAt kR base ok K (w2.alloc (.cells (coC (.slice A1 l.length c1) l.length zeros (.string ⟨#[]⟩) (.pointer (some ⟨w1.heap.size, 0, none⟩)) (.bool false) (.pointer none) (.pointer none) (.pointer none) (.slice none 0 0)) t)) g (coNew l) ∧ (∀ b, X b → ¬ ok b) ∧ (∀ b, K b → w.heap.size ≤ b) ∧ Grows w (w2.alloc (.cells (coC (.slice A1 l.length c1) l.length zeros (.string ⟨#[]⟩) (.pointer (some ⟨w1.heap.size, 0, none⟩)) (.bool false) (.pointer none) (.pointer none) (.pointer none) (.slice none 0 0)) t)) := by
  have hs1 := hgw.below.size
  have hgr : Grows w2 (w2.alloc (.cells (coC (.slice A1 l.length c1) l.length zeros (.string ⟨#[]⟩) (.pointer (some ⟨w1.heap.size, 0, none⟩)) (.bool false) (.pointer none) (.pointer none) (.pointer none) (.slice none 0 0)) t)) := (Grows.refl _).alloc _
  have hLl : LRd (fun b => w.heap.size ≤ b ∧ b < w1.heap.size) w1 A1 c1 l := ⟨hL.rd, hL.nil, hL.le, hL.cap63, fun hn a e => ⟨hL.ok hn a e, by
    obtain ⟨b, o, e2, hb, _⟩ := hL.rd.2 hn
    rw [e] at e2
    cases e2
    exact hb⟩⟩
  have hM : CoreM kR base (fun b => (¬ b = w1.heap.size + 1 ∧ ¬ b = w1.heap.size) ∧ ¬ X b) (fun b => b = w1.heap.size + 1 ∨ b = w1.heap.size) (w2.alloc (.cells (coC (.slice A1 l.length c1) l.length zeros (.string ⟨#[]⟩) (.pointer (some ⟨w1.heap.size, 0, none⟩)) (.bool false) (.pointer none) (.pointer none) (.pointer none) (.slice none 0 0)) t)) (w1.heap.size + 1) (coNew l)
      (.slice A1 l.length c1) (.pointer (some ⟨w1.heap.size, 0, none⟩)) (.pointer none) (.pointer none) (.pointer none) (.slice none 0 0) w1.heap.size w1.heap.size [] := by
    refine ⟨blk_alloc_at _ _ _ _ hs2.symm, ⟨A1, c1, rfl, (hLl.grows (hg12.trans hgr)).mono fun b _ hb => ⟨⟨by omega, by omega⟩, fun e => by have := hX b e; omega⟩⟩, ⟨rfl, (hR _).grows hgr⟩, rfl, ⟨rfl, rfl⟩, World.ownsRow_nil _ _ _ _, rfl, (fun s hs => by cases hs), (fun b e => by cases e), .inl rfl, .inr rfl, by omega, ?_, ?_, ?_, ?_, coNew_good h2⟩
    · rintro b (rfl | rfl) e
      · exact e.1.1 rfl
      · exact e.1.2 rfl
    · intro b hb
      simp at hb
      exact ⟨⟨by omega, by omega⟩, fun e => by have := hX b e; omega⟩
    · rintro b (rfl | rfl) <;> omega
    · intro b hb
      exact ⟨⟨by omega, by omega⟩, fun e => by have := hXb b e; omega⟩
  exact ⟨w1.heap.size + 1, _, _, rfl, hM.at_, (fun b hb e => e.2 hb), (by rintro b (rfl | rfl) <;> omega), (hgw.trans hg12).trans hgr⟩
set_option maxRecDepth 3000 in
set_option maxHeartbeats 2000000 in
theorem refNew19 (A : Option Addr) (cap : Nat) (l : List (List UInt8)) (w : World) (base : Nat) (hbase : base ≤ w.heap.size) (hl : Came w A cap l) (h0 : lcheckV l = 0) (hd : l.length ≤ 1000000) (X : Nat → Prop) (hX : ∀ b, X b → b < w.heap.size) (hXb : ∀ b, X b → base ≤ b) :
    Calls Try.prog 33 #[.slice A l.length cap] w fun e w' => ∃ g ok K, e = .returned (.pointer (some ⟨g, 0, none⟩)) ∧ CoreAt kR base ok K w' g (coNew l) ∧ (∀ b, X b → ¬ ok b) ∧ (∀ b, K b → w.heap.size ≤ b) ∧ Grows w w' := by
  obtain ⟨i0, hi, hz0, hz1, hz2⟩ := info_parts infoStr
  have HX := Lib.hid hX
  have HXB := Lib.hid hXb
  have HL := Lib.hid hl
  have H0 := Lib.hid h0
  have h2 : l.length ≤ 2000 := (lcheckV_good.1 h0).1
  clear hl h0 hX hXb
  go_enter Try.func33, Try.ntmps33
  go_wp2_with fail
  (with_reducible refine (refCheck_any A cap l _ HL.out.rd (by omega) HL.out.each).mono ?_)
  rw [H0.out]
  rintro e w1 ⟨rfl, rfl⟩
  go_wp2_with (at_builtin; go_must (refine wpList_append_rd _ rfl (.const (.slice none 0 0)) (.tmp 6) 22 rfl w.heap.size 9 i0 (.string ⟨#[]⟩) 16 Try.underlying22 hi hz0 hz1 hz2 rfl (.slice none 0 0) 0 [] rfl (World.ownsRow_nil _ _ _ _) A _ cap (lv l) rfl HL.out.nil HL.out.rd (lv_one _) (by unfold maxLen; omega) (by omega) (Nat.le_refl _) ?_; intro v1 w1 hown1 hgrow1; obtain ⟨m1, rfl⟩ := grown_none hgrow1; obtain ⟨A1, c1, rfl, hL1⟩ := LRd.of_own (ok := fun b => w.heap.size ≤ b) (d := l) (by simpa using hown1) (fun b hb => hb); have HL1 := Lib.hid hL1; clear hown1 hgrow1 hL1))
  go_ret
  have e0 : w.heap.size + m1.bs.size = (more w m1).heap.size := by simp
  rw [e0]
  exact new_finR _ hbase HX.out HXB.out h2 (Grows.of w m1) ((Grows.refl _).alloc _) (by simp) HL1.out (fun ok => ref_new (ok := ok) (more w m1) 105 ZR rfl)
set_option maxRecDepth 3000 in
set_option maxHeartbeats 1000000 in
theorem refNew19_no (A : Option Addr) (cap : Nat) (l : List (List UInt8)) (w : World) (hl : Came w A cap l) (h0 : lcheckV l ≠ 0) (hd : l.length ≤ 1000000) :
    Calls Try.prog 33 #[.slice A l.length cap] w fun e w' => e = .returned (.pointer none) ∧ w = w' := by
  have HL := Lib.hid hl
  have h0' : (lcheckV l == 0) = false := by rw [beq_eq_false_iff_ne]; exact h0
  clear hl h0
  go_enter Try.func33, Try.ntmps33
  go_wp2_with fail
  (with_reducible refine (refCheck_any A cap l _ HL.out.rd (by omega) HL.out.each).mono ?_)
  rintro e w1 ⟨rfl, rfl⟩
  go_wp2_with fail
  go_ret
  exact ⟨rfl, rfl⟩
end Go.Proofs.Ythanghgfakibnaa

/-
  The law CorePlays.
-/
namespace Go.Proofs.Ythanghgfakibnaa
open Go.RowKit

section
variable {W w : World} {K K2 : Nat → Prop} {g g2 : Nat} {c : CoV} {s : AcC} {n : Nat}
set_option maxRecDepth 3000 in
theorem does_act (h : Ahead W K K2 g g2 c s n w) :
    Calls Try.prog 34 #[.pointer (some ⟨g, 0, none⟩), .pointer (some ⟨g2, 0, none⟩), .agg #[.int .u8 n, .int .i64 s.at_, .int .i64 s.del, .slice s.A s.ins.length s.cap, .int .i64 s.line, .int .u8 s.letter, .string (tx s.text)]] w (Done W g g2 (plV c s)) := by
  have hk := h.kind
  obtain ⟨u, hu⟩ : ∃ u : Nat, s.letter = u := ⟨s.letter.toNat, by have := h.sok.letter; omega⟩
  rcases (by omega : n % 12 = 0 ∨ n % 12 = 1 ∨ n % 12 = 2 ∨ n % 12 = 3 ∨ n % 12 = 4 ∨ n % 12 = 5 ∨ n % 12 = 6 ∨ n % 12 = 7 ∨ n % 12 = 8 ∨ n % 12 = 9 ∨ n % 12 = 10 ∨ n % 12 = 11) with t | t | t | t | t | t | t | t | t | t | t | t
  · have e : plV c s = (coBegin c).1 := by have h2 : s.kind % 12 = 0 := by omega
                                           simp [plV, h2]
    rw [e]; exact does_0 h t
  · have e : plV c s = (coSplice c s.sp).1 := by have h2 : s.kind % 12 = 1 := by omega
                                                 simp [plV, h2]
    rw [e]; exact does_1 h t
  · have e : plV c s = (coSplice c s.sp).1 := by have h2 : s.kind % 12 = 2 := by omega
                                                 simp [plV, h2]
    rw [e]; exact does_2 h t
  · have e : plV c s = (coSplice c s.sp).1 := by have h2 : s.kind % 12 = 3 := by omega
                                                 simp [plV, h2]
    rw [e]; exact does_3 h t
  · have e : plV c s = (coEnd c).1 := by have h2 : s.kind % 12 = 4 := by omega
                                         simp [plV, h2]
    rw [e]; exact does_4 h t
  · have e : plV c s = coAbort c := by have h2 : s.kind % 12 = 5 := by omega
                                       simp [plV, h2]
    rw [e]; exact does_5 h t
  · have e : plV c s = (coUndo c).1 := by have h2 : s.kind % 12 = 6 := by omega
                                          simp [plV, h2]
    rw [e]
    by_cases he : (coUndo c).2 = 0
    · exact does_6y h he t
    · exact does_6n h he t
  · have e : plV c s = (coGo c s.line).1 := by have h2 : s.kind % 12 = 7 := by omega
                                               simp [plV, h2]
    rw [e]; exact does_7 h t
  · have e : plV c s = (coMark c s.letter s.line).1 := by have h2 : s.kind % 12 = 8 := by omega
                                                          simp [plV, h2]
    rw [e]; exact does_8 h t
  · have e : plV c s = (coSet c u ⟨[s.text], false⟩).1 := by have h2 : s.kind % 12 = 9 := by omega
                                                             simp [plV, h2, hu]
    rw [e]; exact does_9 h u hu t
  · have e : plV c s = { c with dirty := false } := by have h2 : s.kind % 12 = 10 := by omega
                                                       simp [plV, h2]
    rw [e]; exact does_10 h t
  · have e : plV c s = { c with last := s.text } := by have h2 : s.kind % 12 = 11 := by omega
                                                       simp [plV, h2]
    rw [e]; exact does_11 h t
end
set_option maxRecDepth 3000 in
theorem ro_new (A : Option Addr) (n cap : Nat) (l : List (List UInt8)) (w W : World) (hn : n = l.length) (hW : Grows W w) (hl : Came w A cap l) (h0 : lcheckV l = 0) (hd : l.length ≤ 1000000) (X : Nat → Prop) (hX : ∀ b, X b → b < w.heap.size) (hXb : ∀ b, X b → W.heap.size ≤ b) :
    Calls Try.prog 33 #[.slice A n cap] w fun e w' => ∃ g K, e = .returned (.pointer (some ⟨g, 0, none⟩)) ∧ Ro W X K g (coNew l) w' ∧ (∀ b, K b → w.heap.size ≤ b) ∧ Grows w w' := by
  subst hn
  refine (refNew19 A cap l w W.heap.size hW.below.size hl h0 hd X hX hXb).mono ?_
  rintro e w' ⟨g, ok, K, rfl, ⟨tv, rv, uv, wv, hv, dv, r, r2, D, hM⟩, h1, h2, h3⟩
  refine ⟨g, K, rfl, ⟨⟨ok, tv, rv, uv, wv, hv, dv, r, r2, D, hM, h1⟩, hW.trans h3, fun b hb => Nat.le_trans hW.below.size (h2 b hb), fun b hb => ⟨fun e => ?_, Nat.lt_of_lt_of_le (hX b hb) h3.below.size⟩⟩, h2, h3⟩
  have := hX b hb; have := h2 b e; omega
set_option maxRecDepth 3000 in
theorem corePlays_big (A A2 : Option Addr) (cap cap2 : Nat) (l : List (List UInt8)) (L : List AcC) (w : World) (hl : Came w A cap l) (hL : AcsIn w A2 L) (hb : bigL l 20 = true ∨ bigAcs L 60 = true) :
    Calls Try.prog 6 #[.slice A l.length cap, .slice A2 L.length cap2] w fun e w' => e = .returned (.bool true) ∧ Grows w w' := by
  have HL := Lib.hid hl
  have HA := Lib.hid hL
  clear hl hL
  cases h1 : bigL l 20 with
  | true =>
    have H1 := Lib.hid h1
    clear h1 hb
    go_enter Try.func6, Try.ntmps6
    go_wp2_with fail
    (with_reducible refine (beyond20 A cap l _ HL.out.rd HL.out.len HL.out.each).mono ?_)
    rw [H1.out]
    rintro e w1 ⟨rfl, rfl⟩
    go_wp2_with fail
    (with_reducible refine (lives19 _).mono ?_)
    rintro e w1 ⟨rfl, hg⟩
    have HG := Lib.hid hg
    clear hg
    go_wp2_with fail
    go_ret
    exact ⟨rfl, HG.out⟩
  | false =>
    have H1 := Lib.hid h1
    have H2 : Hid (bigAcs L 60 = true) := Lib.hid (by simpa [h1] using hb)
    clear h1 hb
    go_enter Try.func6, Try.ntmps6
    go_wp2_with fail
    (with_reducible refine (beyond20 A cap l _ HL.out.rd HL.out.len HL.out.each).mono ?_)
    rw [H1.out]
    rintro e w1 ⟨rfl, rfl⟩
    go_wp2_with fail
    (with_reducible refine (beyondAc A2 cap2 L 60 60 rfl _ HA.out (by omega)).mono ?_)
    rw [H2.out]
    rintro e w1 ⟨rfl, rfl⟩
    go_wp2_with fail
    (with_reducible refine (lives19 _).mono ?_)
    rintro e w1 ⟨rfl, hg⟩
    have HG := Lib.hid hg
    clear hg
    go_wp2_with fail
    go_ret
    exact ⟨rfl, HG.out⟩
set_option maxRecDepth 3000 in
set_option maxHeartbeats 2000000 in
theorem corePlays_no (A A2 : Option Addr) (cap cap2 : Nat) (l : List (List UInt8)) (L : List AcC) (w : World) (hl : Came w A cap l) (hL : AcsIn w A2 L) (h1 : bigL l 20 = false) (h2 : bigAcs L 60 = false) (h0 : lcheckV l ≠ 0) :
    Calls Try.prog 6 #[.slice A l.length cap, .slice A2 L.length cap2] w fun e w' => e = .returned (.bool true) ∧ Grows w w' := by
  have HL := Lib.hid hl
  have HA := Lib.hid hL
  have H0 := Lib.hid h0
  have H1 := Lib.hid h1
  have H2 := Lib.hid h2
  have hl20 : l.length ≤ 20 := (bigL_no h1).1
  clear hl hL h0 h1 h2
  go_enter Try.func6, Try.ntmps6
  go_wp2_with fail
  (with_reducible refine (beyond20 A cap l _ HL.out.rd HL.out.len HL.out.each).mono ?_)
  rw [H1.out]
  rintro e w1 ⟨rfl, rfl⟩
  go_wp2_with fail
  (with_reducible refine (beyondAc A2 cap2 L 60 60 rfl _ HA.out (by omega)).mono ?_)
  rw [H2.out]
  rintro e w1 ⟨rfl, rfl⟩
  go_wp2_with fail
  (with_reducible refine (coNew_no A cap l _ HL.out H0.out (by omega)).mono ?_)
  rintro e w3 ⟨rfl, m3, rfl⟩
  go_wp2_with fail
  (with_reducible refine (refNew19_no A cap l _ (HL.out.grows (by repeat' first | exact Grows.refl _ | refine Grows.more ?_ _ | refine Grows.alloc ?_ _ | refine Grows.drew ?_ | refine Grows.drewN ?_ _)) H0.out (by omega)).mono ?_)
  rintro e w4 ⟨rfl, hw⟩
  have hw := hw.symm
  subst hw
  go_wp2_with fail
  go_loopg [8] 1 (fun q i wr => q = 1 ∧ i = .int .i64 0 ∧ Grows w wr)
  case atStart => exact ⟨rfl, rfl, by repeat' first | exact Grows.refl _ | refine Grows.more ?_ _ | refine Grows.alloc ?_ _ | refine Grows.drew ?_ | refine Grows.drewN ?_ _⟩
  case round =>
    obtain ⟨hq, rfl, hg⟩ := hrel
    have HG := Lib.hid hg
    clear hq hg
    go_wp2_with fail
    (with_reducible refine (lives19 _).mono ?_)
    rintro e w5 ⟨rfl, hg⟩
    have G5 : Hid (Grows w w5) := Lib.hid (HG.out.trans (Grows.trans (by repeat' first | exact Grows.refl _ | refine Grows.more ?_ _ | refine Grows.alloc ?_ _ | refine Grows.drew ?_ | refine Grows.drewN ?_ _) hg))
    clear hg
    go_wp2_with fail
    go_ret
    exact ⟨rfl, G5.out⟩
set_option maxRecDepth 3000 in
set_option maxHeartbeats 4000000 in
theorem corePlays_yes (A A2 : Option Addr) (cap cap2 : Nat) (l : List (List UInt8)) (L : List AcC) (w : World) (hl : Came w A cap l) (hL : AcsIn w A2 L) (h1 : bigL l 20 = false) (h2 : bigAcs L 60 = false) (h0 : lcheckV l = 0) :
    Calls Try.prog 6 #[.slice A l.length cap, .slice A2 L.length cap2] w fun e w' => e = .returned (.bool true) ∧ Grows w w' := by
  have HL := Lib.hid hl
  have HA := Lib.hid hL
  have H0 := Lib.hid h0
  have H1 := Lib.hid h1
  have H2 := Lib.hid h2
  have HB := Lib.hid (bigAcs_no h2)
  have hl20 : l.length ≤ 20 := (bigL_no h1).1
  have hL60 : L.length ≤ 60 := (bigAcs_no h2).1
  clear hl hL h0 h1 h2
  go_enter Try.func6, Try.ntmps6
  go_wp2_with fail
  (with_reducible refine (beyond20 A cap l _ HL.out.rd HL.out.len HL.out.each).mono ?_)
  rw [H1.out]
  rintro e w1 ⟨rfl, rfl⟩
  go_wp2_with fail
  (with_reducible refine (beyondAc A2 cap2 L 60 60 rfl _ HA.out (by omega)).mono ?_)
  rw [H2.out]
  rintro e w1 ⟨rfl, rfl⟩
  go_wp2_with fail
  (with_reducible refine (co_new A l.length cap l _ rfl HL.out H0.out (by omega) (fun _ => False) (fun _ h => h.elim) w (Grows.refl _)).mono ?_)
  rintro e w1 ⟨g, K1, rfl, hC, -, hg⟩
  have C1 := Lib.hid hC
  have G1 := Lib.hid hg
  clear hC hg
  go_wp2_with fail
  (with_reducible refine (ro_new A l.length cap l _ w rfl G1.out (HL.out.grows G1.out) H0.out (by omega) K1 C1.out.lt C1.out.low).mono ?_)
  rintro e w2 ⟨g2, K2, rfl, hC, hK, hg⟩
  have Z2 := Lib.hid (Duo.start C1.out hg hC hK)
  clear hC hg hK C1 G1
  go_wp2_with fail
  go_loopg [8] L.length (fun q i wr => ∃ (k : Nat) (K K2 : Nat → Prop), q + k = L.length ∧ i = .int .i64 k ∧ Duo w K K2 g g2 (plVs (coNew l) (L.take k)) (plVs (coNew l) (L.take k)) wr)
  case atStart => exact ⟨0, K1, K2, by omega, rfl, Z2.out⟩
  case round =>
    obtain ⟨k, K, K3, hq, rfl, hZ⟩ := hrel
    have HQ := Lib.hid hq
    have Z := Lib.hid hZ
    have hkl : k ≤ L.length := by omega
    have hg : Grows w wr := hZ.a.grown
    clear hq hZ
    by_cases h2 : k < L.length
    · have hAw := HA.out.grows hg
      obtain ⟨b0, o0, rfl, hb, e0, e1, e2, e3, e4, e5, e6⟩ := hAw.rd.ac k h2
      have hS := hAw.each _ (List.getElem_mem h2)
      have hF := HB.out.2 _ (List.getElem_mem h2)
      have hdid : (plVs (coNew l) (L.take k)).did.length ≤ 1000000 := by
        have := plVs_did (coNew l) (L.take k)
        have h3 : (coNew l).did.length = 0 := rfl
        rw [h3, List.length_take] at this
        omega
      have k0 : (0 : Int) ≤ (k : Int) := by omega
      have k1 : (k : Int) < (L.length : Int) := by omega
      have HT := Lib.hid (plVs_take (coNew l) L k h2)
      have hb0 : InHeap b0 wr := hb
      obtain ⟨n, hn⟩ : ∃ n : Nat, L[k].kind = n := ⟨L[k].kind.toNat, by have := hS.kind; omega⟩
      rw [hn] at e0
      have hH : Ahead w K K3 g g2 (plVs (coNew l) (L.take k)) L[k] n wr := ⟨Z.out, hS, hn, (lrd_came (HA.out.each _ (List.getElem_mem h2)).came).grows hg, hdid, hF.1, fun t ht => by have := hF.2.1 t ht; omega, hF.2.2⟩
      have HH := Lib.hid hH
      clear hAw hS hF hdid hn hH
      go_wp2_with fail
      (with_reducible refine (does_act HH.out).mono ?_)
      rintro e w3 ⟨rfl, K4, K5, hZ⟩
      have Z3 := Lib.hid hZ
      clear hZ
      go_wp2_with fail
      (with_reducible refine (same19 Z3.out).mono ?_)
      rintro e w4 ⟨rfl, hg⟩
      have Z4 := Lib.hid (Z3.out.grows hg)
      clear hg
      go_wp2_with fail
      go_roundg (gk - 1)
      case measure => have := HQ.out; omega
      case rel => exact ⟨k + 1, K4, K5, by have := HQ.out; omega, by go_num, by rw [HT.out]; exact Z4.out⟩
    · have hk : k = L.length := by omega
      subst hk
      go_wp2_with fail
      (with_reducible refine (lives19 _).mono ?_)
      rintro e w8 ⟨rfl, hg⟩
      have G8 := Lib.hid (Z.out.a.grown.trans hg)
      clear hg Z
      go_wp2_with fail
      go_ret
      exact ⟨rfl, G8.out⟩
set_option maxRecDepth 3000 in
theorem corePlays_law (A A2 : Option Addr) (cap cap2 : Nat) (l : List (List UInt8)) (L : List AcC) (w : World) (hl : Came w A cap l) (hL : AcsIn w A2 L) :
    Calls Try.prog 6 #[.slice A l.length cap, .slice A2 L.length cap2] w fun e w' => e = .returned (.bool true) ∧ Grows w w' := by
  by_cases hb : bigL l 20 = true ∨ bigAcs L 60 = true
  · exact corePlays_big A A2 cap cap2 l L w hl hL hb
  · have h1 : bigL l 20 = false := by simpa using fun h => hb (.inl h)
    have h2 : bigAcs L 60 = false := by simpa using fun h => hb (.inr h)
    by_cases h0 : lcheckV l = 0
    · exact corePlays_yes A A2 cap cap2 l L w hl hL h1 h2 h0
    · exact corePlays_no A A2 cap cap2 l L w hl hL h1 h2 h0
end Go.Proofs.Ythanghgfakibnaa
