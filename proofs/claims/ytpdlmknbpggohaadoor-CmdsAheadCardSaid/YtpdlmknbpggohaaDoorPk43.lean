/-
  Several texts of the proof: CmdE, CmdLivesP, CmdI.
-/
import Derived.Test.YtpdlmknbpggohaaDoorPk42
import Derived.Test.YtpdlmknbpggohaaDoorPk12
/-
  Commands: two that are the same, walked: two ranges, two commands.
-/
namespace Go.Proofs.YtpdlmknbpggohaaDoor
open Go.RowKit

set_option maxRecDepth 3000 in
theorem adrs_len (us : List Adr) : (adrs us).length = us.length * 4 := by
  induction us with
  | nil => rfl
  | cons a us ih => simp [adrs] at ih ⊢; omega
set_option maxRecDepth 3000 in
theorem adrs_get : ∀ (us : List Adr) (i : Nat) (a : Adr), us[i]? = some a → ∀ k, k < 4 → (adrs us)[i * 4 + k]? = (adrC a).toList[k]?
  | [], i, a, h, _, _ => by simp at h
  | b :: us, 0, a, h, k, hk => by
    simp at h
    subst h
    unfold adrs
    rw [List.flatMap_cons, List.getElem?_append_left (by simp; omega)]
    simp
  | b :: us, i + 1, a, h, k, hk => by
    have ih := adrs_get us i a (by simpa using h) k hk
    unfold adrs at ih ⊢
    rw [List.flatMap_cons, List.getElem?_append_right (by simp; omega), ← ih]
    congr 1
    simp
    omega
set_option maxRecDepth 3000 in
/-- The cells of one address of a list. -/
theorem adr_cells {w : World} {A : Option Addr} {us : List Adr} (h : Rd w 4 A us.length (adrs us)) {i : Nat} {a : Adr} (hi : us[i]? = some a) :
    ∃ b o, A = some ⟨b, o, none⟩ ∧ w.cell? ⟨b, o + i * 4, none⟩ = some (.int .i64 a.kind) ∧ w.cell? ⟨b, o + i * 4 + 1, none⟩ = some (.int .i64 a.n) ∧ w.cell? ⟨b, o + i * 4 + 2, none⟩ = some (.string (tx a.re)) ∧ w.cell? ⟨b, o + i * 4 + 3, none⟩ = some (.int .i64 a.add) := by
  have hlt := (List.getElem?_eq_some_iff.1 hi).1
  obtain ⟨b, o, e, _, hc⟩ := h.2 (by omega)
  have g := adrs_get us i a hi
  exact ⟨b, o, e, hc _ _ (g 0 (by decide)), by rw [Nat.add_assoc]; exact hc _ _ (g 1 (by decide)), by rw [Nat.add_assoc]; exact hc _ _ (g 2 (by decide)), by rw [Nat.add_assoc]; exact hc _ _ (g 3 (by decide))⟩
set_option maxRecDepth 3000 in
theorem bool_cell {w : World} {B : Option Addr} {ss : List Bool} (h : Rd w 1 B ss.length (ss.map Value.bool)) {i : Nat} {x : Bool} (hi : ss[i]? = some x) : ∃ b o, B = some ⟨b, o, none⟩ ∧ w.cell? ⟨b, o + i, none⟩ = some (.bool x) := by
  have hlt := (List.getElem?_eq_some_iff.1 hi).1
  obtain ⟨b, o, e, _, hc⟩ := h.2 (by omega)
  exact ⟨b, o, e, hc _ _ (by rw [List.getElem?_map, hi]; rfl)⟩
set_option maxRecDepth 3000 in
set_option maxHeartbeats 4000000 in
theorem sameRange_any (A B A' B' : Option Addr) (ca cb ca' cb' : Nat) (us : List Adr) (ss : List Bool) (w : World) (h1 : Rd w 4 A us.length (adrs us)) (h2 : Rd w 1 B ss.length (ss.map Value.bool)) (h3 : Rd w 4 A' us.length (adrs us)) (h4 : Rd w 1 B' ss.length (ss.map Value.bool)) (hu : us.length ≤ 1001) (hs : ss.length ≤ 1001) :
    Calls Tryd.prog 21 #[.agg #[.slice A us.length ca, .slice B ss.length cb], .agg #[.slice A' us.length ca', .slice B' ss.length cb']] w fun e w' => e = .returned (.bool true) ∧ Grows w w' := by
  have hg0 : Grows w ((w.alloc (.cells #[.slice A us.length ca, .slice B ss.length cb] 26)).alloc (.cells #[.slice A' us.length ca', .slice B' ss.length cb'] 26)) := ((Grows.refl w).alloc _).alloc _
  have H1 := Lib.hid h1
  have H2 := Lib.hid h2
  have H3 := Lib.hid h3
  have H4 := Lib.hid h4
  clear h1 h2 h3 h4
  obtain ⟨n, hn⟩ : ∃ n, us.length = n := ⟨_, rfl⟩
  obtain ⟨q, hq⟩ : ∃ n, ss.length = n := ⟨_, rfl⟩
  rw [hn] at hg0 hu ⊢
  rw [hq] at hg0 hs ⊢
  have HN := Lib.hid hn
  have HQ0 := Lib.hid hq
  clear hn hq
  go_enter Tryd.func21, Tryd.ntmps21
  go_wp2_with fail
  have hr0 : blk ((w.alloc (.cells #[.slice A n ca, .slice B q cb] 26)).alloc (.cells #[.slice A' n ca', .slice B' q cb'] 26)) w.heap.size = #[.slice A n ca, .slice B q cb] := by rw [blk_alloc_past _ _ _ (by simp [go_sem]), blk_alloc_at _ _ _ _ rfl]
  have hr1 : blk ((w.alloc (.cells #[.slice A n ca, .slice B q cb] 26)).alloc (.cells #[.slice A' n ca', .slice B' q cb'] 26)) (w.heap.size + 1) = #[.slice A' n ca', .slice B' q cb'] := blk_alloc_at _ _ _ _ (by simp)
  generalize (w.alloc (.cells #[.slice A n ca, .slice B q cb] 26)).alloc (.cells #[.slice A' n ca', .slice B' q cb'] 26) = w0 at hg0 hr0 hr1 ⊢
  obtain ⟨c0, c1, _, _⟩ := two_of hr0
  obtain ⟨d0, d1, _, _⟩ := two_of hr1
  have HG0 := Lib.hid hg0
  go_loopg [5] n (fun k v5 wr => ∃ i : Nat, k + i = n ∧ v5 = .int .i64 i ∧ ∃ m, wr = w0.drewN m)
  case atStart => exact ⟨0, by omega, rfl, 0, rfl⟩
  case round =>
    obtain ⟨i, hk, rfl, m, rfl⟩ := hrel
    have HK := Lib.hid hk
    have hin : i ≤ n := by omega
    clear hk
    by_cases k1 : i < n
    · obtain ⟨a, ha⟩ : ∃ a, us[i]? = some a := ⟨_, List.getElem?_eq_getElem (by have := HN.out; omega)⟩
      obtain ⟨b, o, rfl, e0, e1, e2, e3⟩ := adr_cells (H1.out.grows HG0.out) ha
      obtain ⟨b', o', rfl, f0, f1, f2, f3⟩ := adr_cells (H3.out.grows HG0.out) ha
      clear ha
      go_wp2_with fail
      go_quiet (fail)
      go_wp2_with fail
      go_roundg (gk - 1)
      case measure => have := HK.out; omega
      case rel => exact ⟨i + 1, by have := HK.out; omega, by simp, _, rfl⟩
    · have k1n : decide (i < n) = false := decide_eq_false k1
      clear k1
      go_wp2_with fail
      go_loopg [6] q (fun k v6 wr => ∃ i : Nat, k + i = q ∧ v6 = .int .i64 i ∧ ∃ m, wr = w0.drewN m)
      case atStart => exact ⟨0, by omega, rfl, m, rfl⟩
      case round =>
        obtain ⟨j, hk, rfl, m2, rfl⟩ := hrel
        have HK2 := Lib.hid hk
        have hjq : j ≤ q := by omega
        clear hk
        by_cases k2 : j < q
        · obtain ⟨x, hx⟩ : ∃ x, ss[j]? = some x := ⟨_, List.getElem?_eq_getElem (by have := HQ0.out; omega)⟩
          obtain ⟨b, o, rfl, e0⟩ := bool_cell (H2.out.grows HG0.out) hx
          obtain ⟨b', o', rfl, f0⟩ := bool_cell (H4.out.grows HG0.out) hx
          clear hx
          go_wp2_with fail
          go_quiet (fail)
          go_wp2_with fail
          go_roundg (gk - 1)
          case measure => have := HK2.out; omega
          case rel => exact ⟨j + 1, by have := HK2.out; omega, by simp, _, rfl⟩
        · have k2n : decide (j < q) = false := decide_eq_false k2
          clear k2
          go_wp2_with fail
          go_ret
          exact ⟨rfl, HG0.out.drewN _⟩
/-- A command of a list, where it lies. -/
structure CvAt (w : World) (C : Array Value) (x : Cm) : Prop where
  mk ::
  ex : ∃ (A : Option Addr) (ca : Nat) (B : Option Addr) (cb : Nat), C = cmC (.slice A x.list.length ca) (.slice B x.semi.length cb) x ∧ Rd w 4 A x.list.length (adrs x.list) ∧ Rd w 1 B x.semi.length (x.semi.map Value.bool) ∧ x.list.length ≤ 1001 ∧ x.semi.length ≤ 1001
set_option maxRecDepth 3000 in
theorem CvAt.grows {w w' : World} {C : Array Value} {x : Cm} (h : CvAt w C x) (hg : Grows w w') : CvAt w' C x := by
  obtain ⟨A, ca, B, cb, h1, h2, h3, h4, h5⟩ := h.ex
  exact ⟨A, ca, B, cb, h1, h2.grows hg, h3.grows hg, h4, h5⟩
set_option maxRecDepth 3000 in
theorem cvZ (w : World) : CvAt w cmZ (cm0 [] []) := ⟨none, 0, none, 0, rfl, Rd.nil_, Rd.nil_, by decide, by decide⟩
set_option maxRecDepth 3000 in
set_option maxHeartbeats 4000000 in
theorem sameCmd_any {C D : Array Value} {x : Cm} {w : World} (h1 : CvAt w C x) (h2 : CvAt w D x) :
    Calls Tryd.prog 8 #[.agg C, .agg D] w fun e w' => e = .returned (.bool true) ∧ Grows w w' := by
  obtain ⟨A, ca, B, cb, rfl, r1, r2, r3, r4⟩ := h1.ex
  obtain ⟨A', ca', B', cb', rfl, q1, q2, q3, q4⟩ := h2.ex
  have hcall := Lib.hid fun (w' : World) (hg : Grows w w') => sameRange_any A B A' B' ca cb ca' cb' x.list x.semi w' (r1.grows hg) (r2.grows hg) (q1.grows hg) (q2.grows hg) r3 r4
  clear h1 h2 r1 r2 q1 q2
  go_enter Tryd.func8, Tryd.ntmps8
  go_wp2_with fail
  (with_reducible refine (hcall.out _ (((Grows.refl w).alloc _).alloc _)).mono ?_)
  rintro e w1 ⟨rfl, m, rfl⟩
  go_wp2_with fail
  go_ret
  exact ⟨by simp, (((Grows.refl w).alloc _).alloc _).more _⟩
end Go.Proofs.YtpdlmknbpggohaaDoor

/-
  Command lines in plain words: the chapter's lines. (Printed by cmdlives.py.)
-/
namespace Go.Proofs.YtpdlmknbpggohaaDoor

set_option maxRecDepth 3000 in
/-- "s/a/b/3gp" -/
theorem line0 : cmdL [115, 47, 97, 47, 98, 47, 51, 103, 112] = .ok ⟨[], [], 115, adr0, 0, [97], [98], true, 3, [], [], 112⟩ := by rfl
set_option maxRecDepth 3000 in
/-- "v,x,s/y/z/" -/
theorem line1 : cmdL [118, 44, 120, 44, 115, 47, 121, 47, 122, 47] = .ok ⟨[], [], 118, adr0, 0, [120], [], false, 0, [115, 47, 121, 47, 122, 47], [], 0⟩ := by rfl
set_option maxRecDepth 3000 in
/-- "m$p" -/
theorem line2 : cmdL [109, 36, 112] = .ok ⟨[], [], 109, ⟨2, 0, [], 0⟩, 0, [], [], false, 0, [], [], 112⟩ := by rfl
set_option maxRecDepth 3000 in
/-- "ya A" -/
theorem line3 : cmdL [121, 97, 32, 65] = .ok ⟨[], [], 89, adr0, 65, [], [], false, 0, [], [], 0⟩ := by rfl
set_option maxRecDepth 3000 in
/-- "1,3p" -/
theorem line4 : cmdL [49, 44, 51, 112] = .ok ⟨[⟨3, 1, [], 0⟩, ⟨3, 3, [], 0⟩], [false], 112, adr0, 0, [], [], false, 0, [], [], 0⟩ := by rfl
set_option maxRecDepth 3000 in
/-- "" -/
theorem line5 : cmdL [] = .ok ⟨[], [], 0, adr0, 0, [], [], false, 0, [], [], 0⟩ := by rfl
set_option maxRecDepth 3000 in
/-- "s/a/b" -/
theorem line6 : cmdL [115, 47, 97, 47, 98] = .ok ⟨[], [], 115, adr0, 0, [97], [98], false, 1, [], [], 112⟩ := by rfl
set_option maxRecDepth 3000 in
/-- "pub" -/
theorem line7 : cmdL [112, 117, 98] = .ok ⟨[], [], 80, adr0, 98, [], [], false, 0, [], [], 0⟩ := by rfl
set_option maxRecDepth 3000 in
/-- "w out" -/
theorem line8 : cmdL [119, 32, 111, 117, 116] = .ok ⟨[], [], 119, adr0, 0, [], [], false, 0, [], [111, 117, 116], 0⟩ := by rfl
set_option maxRecDepth 3000 in
/-- ".d l" -/
theorem lineX0 : cmdL [46, 100, 32, 108] = .error 211 := by rfl
set_option maxRecDepth 3000 in
/-- "s/a/b/gg" -/
theorem lineX1 : cmdL [115, 47, 97, 47, 98, 47, 103, 103] = .error 211 := by rfl
set_option maxRecDepth 3000 in
/-- "s" -/
theorem lineX2 : cmdL [115] = .error 90 := by rfl
set_option maxRecDepth 3000 in
/-- "k" -/
theorem lineX3 : cmdL [107] = .error 211 := by rfl
set_option maxRecDepth 3000 in
/-- "wout" -/
theorem lineX4 : cmdL [119, 111, 117, 116] = .error 211 := by rfl
set_option maxRecDepth 3000 in
/-- "w !ls" -/
theorem lineX5 : cmdL [119, 32, 33, 108, 115] = .error 210 := by rfl
set_option maxRecDepth 3000 in
/-- "x" -/
theorem lineX6 : cmdL [120] = .error 210 := by rfl
end Go.Proofs.YtpdlmknbpggohaaDoor

/-
  Commands: says, fails, lives, walked. (Printed by cmdi.py.)
-/
namespace Go.Proofs.YtpdlmknbpggohaaDoor
open Go.RowKit

set_option maxRecDepth 3000 in
theorem tx_list (l : List UInt8) : (tx l).toList = l := by rw [ByteArray.toList_eq, tx_data]
attribute [local go_sem] tx_list
set_option maxRecDepth 3000 in
theorem cmd_ok {l : List UInt8} {x : Cm} (h : cmdL l = .ok x) (hl : l.length ≤ 1000) (w : World) (hs : Sane w) (X : ByteArray) (hX : X = tx l) :
    Calls Tryd.prog 6 #[.string X] w fun e w' => (∃ (A : Option Addr) (ca : Nat) (B : Option Addr) (cb : Nat), e = .returned (.tuple #[.agg (cmC (.slice A x.list.length ca) (.slice B x.semi.length cb) x), .int .i64 0]) ∧ CvAt w' (cmC (.slice A x.list.length ca) (.slice B x.semi.length cb) x) x) ∧ Grows w w' := by
  subst hX
  refine (cmd_any l hl w hs).mono fun e w' ⟨hp, hg⟩ => ⟨?_, hg⟩
  rw [h] at hp
  obtain ⟨A, ca, B, cb, rfl, r⟩ := hp
  exact ⟨A, ca, B, cb, rfl, A, ca, B, cb, rfl, r⟩
set_option maxRecDepth 3000 in
theorem cmd_err {l : List UInt8} {n : Nat} (h : cmdL l = .error n) (hl : l.length ≤ 1000) (w : World) (hs : Sane w) (X : ByteArray) (hX : X = tx l) :
    Calls Tryd.prog 6 #[.string X] w fun e w' => e = .returned (.tuple #[.agg cmZ, .int .i64 n]) ∧ Grows w w' := by
  subst hX
  refine (cmd_any l hl w hs).mono fun e w' ⟨hp, hg⟩ => ⟨?_, hg⟩
  rw [h] at hp
  exact hp
set_option maxRecDepth 3000 in
theorem cvZ2 (w : World) : CvAt w #[.slice none 0 0, .slice none 0 0, .int .u8 0, .int .i64 0, .int .i64 0, .string ⟨#[]⟩, .int .i64 0, .int .u8 0, .string ⟨#[]⟩, .string ⟨#[]⟩, .bool false, .int .i64 0, .string ⟨#[]⟩, .string ⟨#[]⟩, .int .u8 0] (cm0 [] []) := cvZ w
set_option maxRecDepth 3000 in
theorem cvZ3 (w : World) : CvAt w #[.slice none 0 0, .slice none 0 0, .int .u8 0, .int .i64 0, .int .i64 0, .string (tx []), .int .i64 0, .int .u8 0, .string (tx []), .string (tx []), .bool false, .int .i64 0, .string (tx []), .string (tx []), .int .u8 0] (cm0 [] []) := cvZ w
set_option maxRecDepth 3000 in
theorem says_any {l : List UInt8} {x : Cm} (h : cmdL l = .ok x) (hl : l.length ≤ 1000) (w : World) (hs : Sane w) (X : ByteArray) (hX : X = tx l) (nI pI : Int) (hn : nI = (x.name : Int)) (hp : pI = (x.print : Int)) :
    Calls Tryd.prog 13 #[.string X, .int .u8 nI, .int .u8 pI] w fun e w' => e = .returned (.bool true) ∧ Grows w w' := by
  have hc := Lib.hid (cmd_ok h hl w hs X hX)
  subst hn hp
  clear h hs hX
  go_enter Tryd.func13, Tryd.ntmps13
  go_wp2_with fail
  (with_reducible refine hc.out.mono ?_)
  rintro e w1 ⟨⟨A, ca, B, cb, rfl, -⟩, m, rfl⟩
  go_wp2_with fail
  go_ret
  exact ⟨by simp, by repeat' first | exact Grows.refl _ | refine Grows.more ?_ _ | refine Grows.alloc ?_ _⟩
set_option maxRecDepth 3000 in
theorem fails_any {l : List UInt8} {n : Nat} (h : cmdL l = .error n) (hl : l.length ≤ 1000) (w : World) (hs : Sane w) (X : ByteArray) (hX : X = tx l) (nI : Int) (hn : nI = (n : Int)) :
    Calls Tryd.prog 14 #[.string X, .int .i64 nI] w fun e w' => e = .returned (.bool true) ∧ Grows w w' := by
  have hc := Lib.hid (cmd_err h hl w hs X hX)
  subst hn
  clear h hs hX
  go_enter Tryd.func14, Tryd.ntmps14
  go_wp2_with fail
  (with_reducible refine hc.out.mono ?_)
  rintro e w1 ⟨rfl, m, rfl⟩
  unfold cmZ cm0 adr0
  go_wp2_with fail
  (with_reducible refine (sameCmd_any (cvZ3 _) (cvZ2 _)).mono ?_)
  rintro e w2 ⟨rfl, m2, rfl⟩
  go_wp2_with fail
  go_ret
  exact ⟨by simp, by repeat' first | exact Grows.refl _ | refine Grows.more ?_ _ | refine Grows.alloc ?_ _⟩
set_option maxRecDepth 3000 in
set_option maxHeartbeats 4000000 in
theorem lives_any (w : World) (hs : Sane w) : Calls Tryd.prog 5 #[] w fun e w' => e = .returned (.bool true) ∧ Grows w w' := by
  have HS := Lib.hid hs
  clear hs
  go_enter Tryd.func5, Tryd.ntmps5
  go_wp2_with fail
  (with_reducible refine (cmd_ok line0 (by decide) _ (HS.out.grows (by repeat' first | exact Grows.refl _ | refine Grows.more ?_ _ | refine Grows.alloc ?_ _)) ⟨#[115, 47, 97, 47, 98, 47, 51, 103, 112]⟩ rfl).mono ?_)
  rintro e w1 ⟨⟨A0, ca0, B0, cb0, rfl, -⟩, m0, rfl⟩
  go_wp2_with fail
  (with_reducible refine (cmd_ok line1 (by decide) _ (HS.out.grows (by repeat' first | exact Grows.refl _ | refine Grows.more ?_ _ | refine Grows.alloc ?_ _)) ⟨#[118, 44, 120, 44, 115, 47, 121, 47, 122, 47]⟩ rfl).mono ?_)
  rintro e w1 ⟨⟨A1, ca1, B1, cb1, rfl, -⟩, m1, rfl⟩
  go_wp2_with fail
  (with_reducible refine (cmd_ok line2 (by decide) _ (HS.out.grows (by repeat' first | exact Grows.refl _ | refine Grows.more ?_ _ | refine Grows.alloc ?_ _)) ⟨#[109, 36, 112]⟩ rfl).mono ?_)
  rintro e w1 ⟨⟨A2, ca2, B2, cb2, rfl, -⟩, m2, rfl⟩
  go_wp2_with fail
  (with_reducible refine (cmd_ok line3 (by decide) _ (HS.out.grows (by repeat' first | exact Grows.refl _ | refine Grows.more ?_ _ | refine Grows.alloc ?_ _)) ⟨#[121, 97, 32, 65]⟩ rfl).mono ?_)
  rintro e w1 ⟨⟨A3, ca3, B3, cb3, rfl, -⟩, m3, rfl⟩
  go_wp2_with fail
  (with_reducible refine (says_any line4 (by decide) _ (HS.out.grows (by repeat' first | exact Grows.refl _ | refine Grows.more ?_ _ | refine Grows.alloc ?_ _)) ⟨#[49, 44, 51, 112]⟩ rfl 112 0 rfl rfl).mono ?_)
  rintro e w1 ⟨rfl, m4, rfl⟩
  go_wp2_with fail
  (with_reducible refine (says_any line5 (by decide) _ (HS.out.grows (by repeat' first | exact Grows.refl _ | refine Grows.more ?_ _ | refine Grows.alloc ?_ _)) ⟨#[]⟩ rfl 0 0 rfl rfl).mono ?_)
  rintro e w1 ⟨rfl, m5, rfl⟩
  go_wp2_with fail
  (with_reducible refine (says_any line6 (by decide) _ (HS.out.grows (by repeat' first | exact Grows.refl _ | refine Grows.more ?_ _ | refine Grows.alloc ?_ _)) ⟨#[115, 47, 97, 47, 98]⟩ rfl 115 112 rfl rfl).mono ?_)
  rintro e w1 ⟨rfl, m6, rfl⟩
  go_wp2_with fail
  (with_reducible refine (says_any line7 (by decide) _ (HS.out.grows (by repeat' first | exact Grows.refl _ | refine Grows.more ?_ _ | refine Grows.alloc ?_ _)) ⟨#[112, 117, 98]⟩ rfl 80 0 rfl rfl).mono ?_)
  rintro e w1 ⟨rfl, m7, rfl⟩
  go_wp2_with fail
  (with_reducible refine (says_any line8 (by decide) _ (HS.out.grows (by repeat' first | exact Grows.refl _ | refine Grows.more ?_ _ | refine Grows.alloc ?_ _)) ⟨#[119, 32, 111, 117, 116]⟩ rfl 119 0 rfl rfl).mono ?_)
  rintro e w1 ⟨rfl, m8, rfl⟩
  go_wp2_with fail
  (with_reducible refine (fails_any lineX0 (by decide) _ (HS.out.grows (by repeat' first | exact Grows.refl _ | refine Grows.more ?_ _ | refine Grows.alloc ?_ _)) ⟨#[46, 100, 32, 108]⟩ rfl 211 rfl).mono ?_)
  rintro e w1 ⟨rfl, m9, rfl⟩
  go_wp2_with fail
  (with_reducible refine (fails_any lineX1 (by decide) _ (HS.out.grows (by repeat' first | exact Grows.refl _ | refine Grows.more ?_ _ | refine Grows.alloc ?_ _)) ⟨#[115, 47, 97, 47, 98, 47, 103, 103]⟩ rfl 211 rfl).mono ?_)
  rintro e w1 ⟨rfl, m10, rfl⟩
  go_wp2_with fail
  (with_reducible refine (fails_any lineX2 (by decide) _ (HS.out.grows (by repeat' first | exact Grows.refl _ | refine Grows.more ?_ _ | refine Grows.alloc ?_ _)) ⟨#[115]⟩ rfl 90 rfl).mono ?_)
  rintro e w1 ⟨rfl, m11, rfl⟩
  go_wp2_with fail
  (with_reducible refine (fails_any lineX3 (by decide) _ (HS.out.grows (by repeat' first | exact Grows.refl _ | refine Grows.more ?_ _ | refine Grows.alloc ?_ _)) ⟨#[107]⟩ rfl 211 rfl).mono ?_)
  rintro e w1 ⟨rfl, m12, rfl⟩
  go_wp2_with fail
  (with_reducible refine (fails_any lineX4 (by decide) _ (HS.out.grows (by repeat' first | exact Grows.refl _ | refine Grows.more ?_ _ | refine Grows.alloc ?_ _)) ⟨#[119, 111, 117, 116]⟩ rfl 211 rfl).mono ?_)
  rintro e w1 ⟨rfl, m13, rfl⟩
  go_wp2_with fail
  (with_reducible refine (fails_any lineX5 (by decide) _ (HS.out.grows (by repeat' first | exact Grows.refl _ | refine Grows.more ?_ _ | refine Grows.alloc ?_ _)) ⟨#[119, 32, 33, 108, 115]⟩ rfl 210 rfl).mono ?_)
  rintro e w1 ⟨rfl, m14, rfl⟩
  go_wp2_with fail
  (with_reducible refine (fails_any lineX6 (by decide) _ (HS.out.grows (by repeat' first | exact Grows.refl _ | refine Grows.more ?_ _ | refine Grows.alloc ?_ _)) ⟨#[120]⟩ rfl 210 rfl).mono ?_)
  rintro e w1 ⟨rfl, m15, rfl⟩
  go_wp2_with fail
  go_ret
  exact ⟨rfl, by repeat' first | exact Grows.refl _ | refine Grows.more ?_ _ | refine Grows.alloc ?_ _⟩
end Go.Proofs.YtpdlmknbpggohaaDoor
