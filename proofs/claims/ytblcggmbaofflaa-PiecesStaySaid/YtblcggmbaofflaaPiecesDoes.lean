/-
  Pieces: the chapter's examples (does); the law's own Much.
-/
import Derived.Test.YtblcggmbaofflaaPiecesSpliceNo
import Derived.Test.YtblcggmbaofflaaTwin
import Derived.Test.YtblcggmbaofflaaCuts
namespace Go.Proofs.Ytblcggmbaofflaa
open Go.RowKit

theorem SpliceOut.yes {T : Tbl} {d : List (List UInt8)} {x : List (List UInt8) × Int} {w : World} {e : Ending} {w' : World} (h : SpliceOut T x w e w') (hx : x = (d, 0)) : ∃ U : Tbl, e = .returned (.tuple #[U.val, .int .i64 0]) ∧ TabOf w d U w' ∧ (∀ b, U.uses b → T.uses b ∨ w.heap.size ≤ b) ∧ U.ps.length ≤ T.ps.length + 2 := by
  subst hx
  rcases h with ⟨h, _⟩ | ⟨_, h⟩
  · exact absurd rfl h
  · exact h
theorem SpliceOut.no {T : Tbl} {c : Int} {x : List (List UInt8) × Int} {w : World} {e : Ending} {w' : World} (h : SpliceOut T x w e w') (hx : x.2 = c) (hc : c ≠ 0) : e = .returned (.tuple #[.pointer none, .int .i64 c]) ∧ Grows w w' := by
  subst hx
  rcases h with ⟨_, h⟩ | ⟨h, _⟩
  · exact h
  · exact absurd h hc
theorem splice_n (T : Tbl) (at_ del : Int) (I : Option Addr) (n ci : Nat) (ins : List (List UInt8)) (w : World) (hT : T.ok w) (hn : n = ins.length) (hI : Rd w 1 I ins.length (lv ins)) (hnI : I = none → ins.length = 0 ∧ ci = 0) (hi : ins.length ≤ 1000000) (hl : ∀ s ∈ ins, s.length ≤ 9223372036854775807) (ha : I64 at_) (hd : I64 del) :
    Calls Try.prog 17 #[T.val, .int .i64 at_, .int .i64 del, .slice I n ci] w (SpliceOut T (spliceV T.L at_ del ins) w) := by
  subst hn; exact splice_any T at_ del I ci ins w hT hI hnI hi hl ha hd
theorem new_n (A : Option Addr) (n cap : Nat) (d : List (List UInt8)) (w : World) (hn : n = d.length) (hA : Rd w 1 A d.length (lv d)) (hd : d.length ≤ 1000000) (hnil : A = none → d.length = 0 ∧ cap = 0) (hl : ∀ s ∈ d, s.length ≤ 9223372036854775807) (hok : lcheckV d = 0) :
    Calls Try.prog 13 #[.slice A n cap] w (TabNew d w) := by
  subst hn; exact new_any A cap d w hA hd hnil hl hok

set_option maxHeartbeats 4000000 in
theorem does_any (w : World) : Calls Try.prog 16 #[] w fun e w' => e = .returned (.bool true) ∧ Grows w w' := by
  go_enter Try.func16, Try.ntmps16
  go_wp2_with fail
  (with_reducible refine (new_n _ 3 _ [[97], [98], [99]] _ rfl (rd_new _ _ _ 3 _ rfl rfl) (by decide) (fun h => by cases h) (by decide) (by decide)).mono ?_)
  rintro e w1 ⟨T, rfl, ⟨hT, hTL, m1, rfl⟩, -, -⟩
  have hs1 : spliceV T.L 1 1 [[120], [121]] = ([[97], [120], [121], [99]], 0) := by rw [hTL]; decide
  have hs2 : (spliceV T.L 2 2 []).2 = 2 := by rw [hTL]; decide
  have hs3 : spliceV T.L 0 3 [] = ([], 0) := by rw [hTL]; decide
  go_wp2_with fail
  (with_reducible refine (splice_n T 1 1 _ 2 _ [[120], [121]] _ (hT.grows ((Grows.refl _).alloc _)) rfl (rd_new _ _ _ 2 _ rfl (by simp)) (fun h => by cases h) (by decide) (by decide) (by unfold I64; omega) (by unfold I64; omega)).mono ?_)
  intro e w2 h
  obtain ⟨U, rfl, ⟨hU, hUL, m2, rfl⟩, -, -⟩ := h.yes hs1
  clear h
  go_wp2_with fail
  (with_reducible refine (splice_n T 2 2 none 0 0 [] _ (hT.grows (((Grows.refl _).alloc _).more _)) rfl Rd.nil_ (fun _ => ⟨rfl, rfl⟩) (by decide) (by decide) (by unfold I64; omega) (by unfold I64; omega)).mono ?_)
  intro e w3 h
  obtain ⟨rfl, m3, rfl⟩ := h.no hs2 (by decide)
  clear h
  go_wp2_with fail
  (with_reducible refine (splice_n T 0 3 none 0 0 [] _ (hT.grows ((((Grows.refl _).alloc _).more _).more _)) rfl Rd.nil_ (fun _ => ⟨rfl, rfl⟩) (by decide) (by decide) (by unfold I64; omega) (by unfold I64; omega)).mono ?_)
  intro e w4 h
  obtain ⟨V, rfl, ⟨hV, hVL, m4, rfl⟩, -, -⟩ := h.yes hs3
  clear h hs1 hs2 hs3
  have hl4 : rangeV U.L 4 4 = [[99]] := by rw [hUL]; decide
  have hl2 : rangeV U.L 2 9 = [[120], [121], [99]] := by rw [hUL]; decide
  go_wp2_with fail
  (with_reducible refine (line_any U 4 _ (hU.grows (by repeat' first | exact Grows.refl _ | refine Grows.more ?_ _ | refine Grows.alloc ?_ _ | refine Grows.drew ?_)) (by unfold I64; omega)).mono ?_)
  rw [hl4, show decide (([[99]] : List (List UInt8)).length = 1) = true from rfl, show tx (([[99]] : List (List UInt8)).headD []) = (⟨#[99]⟩ : ByteArray) from rfl]
  rintro e w5 ⟨rfl, m5, rfl⟩
  go_wp2_with fail
  (with_reducible refine (all_any U _ (hU.grows (by repeat' first | exact Grows.refl _ | refine Grows.more ?_ _ | refine Grows.alloc ?_ _ | refine Grows.drew ?_))).mono ?_)
  rw [hUL]
  rintro e w6 ⟨v, rfl, hown, m6, rfl⟩
  obtain ⟨A1, c1, rfl, -, -, hA1, -⟩ := own_row hown
  clear hown
  go_wp2_with fail
  (with_reducible refine (lawSame_at A1 _ c1 4 4 4 [[97], [120], [121], [99]] [[97], [120], [121], [99]] _ (hA1.grows (by repeat' first | exact Grows.refl _ | refine Grows.more ?_ _ | refine Grows.alloc ?_ _ | refine Grows.drew ?_)) (rd_new _ _ _ 4 _ rfl (by simp)) (by decide) (by decide) rfl rfl).mono ?_)
  rw [sameL_self]
  rintro e w7 ⟨rfl, m7, rfl⟩
  go_wp2_with fail
  (with_reducible refine (all_any T _ (hT.grows (by repeat' first | exact Grows.refl _ | refine Grows.more ?_ _ | refine Grows.alloc ?_ _ | refine Grows.drew ?_))).mono ?_)
  rw [hTL]
  rintro e w6 ⟨v, rfl, hown, m8, rfl⟩
  obtain ⟨A2, c2, rfl, -, -, hA2, -⟩ := own_row hown
  clear hown
  go_wp2_with fail
  (with_reducible refine (lawSame_at A2 _ c2 3 3 3 [[97], [98], [99]] [[97], [98], [99]] _ (hA2.grows (by repeat' first | exact Grows.refl _ | refine Grows.more ?_ _ | refine Grows.alloc ?_ _ | refine Grows.drew ?_)) (rd_new _ _ _ 3 _ rfl (by simp)) (by decide) (by decide) rfl rfl).mono ?_)
  rw [sameL_self]
  rintro e w7 ⟨rfl, m9, rfl⟩
  go_wp2_with fail
  (with_reducible refine (lines_any U 2 9 _ (hU.grows (by repeat' first | exact Grows.refl _ | refine Grows.more ?_ _ | refine Grows.alloc ?_ _ | refine Grows.drew ?_)) (by unfold I64; omega) (by unfold I64; omega)).mono ?_)
  rw [hl2]
  rintro e w6 ⟨v, rfl, hown, m10, rfl⟩
  obtain ⟨A3, c3, rfl, -, -, hA3, -⟩ := own_row hown
  clear hown
  go_wp2_with fail
  (with_reducible refine (lawSame_at A3 _ c3 3 3 3 [[120], [121], [99]] [[120], [121], [99]] _ (hA3.grows (by repeat' first | exact Grows.refl _ | refine Grows.more ?_ _ | refine Grows.alloc ?_ _ | refine Grows.drew ?_)) (rd_new _ _ _ 3 _ rfl (by simp)) (by decide) (by decide) rfl rfl).mono ?_)
  rw [sameL_self]
  rintro e w7 ⟨rfl, m11, rfl⟩
  go_wp2_with fail
  (with_reducible refine (text_any V _ (hV.grows (by repeat' first | exact Grows.refl _ | refine Grows.more ?_ _ | refine Grows.alloc ?_ _ | refine Grows.drew ?_)) (by rw [hVL]; decide)).mono ?_)
  rw [hVL, show tx (joinL []) = (⟨#[]⟩ : ByteArray) from rfl]
  rintro e w8 ⟨rfl, m12, rfl⟩
  have hVp : V.ps.length = 0 := by
    have := (hV.count); have h2 : (partsL V.ps).length = 0 := by rw [show partsL V.ps = V.L from rfl, hVL]; rfl
    omega
  go_wp2_with fail
  (with_reducible refine (pieces_any V _ (hV.grows (by repeat' first | exact Grows.refl _ | refine Grows.more ?_ _ | refine Grows.alloc ?_ _ | refine Grows.drew ?_))).mono ?_)
  rw [hVp]
  rintro e w9 ⟨rfl, rfl⟩
  go_wp2_with fail
  (with_reducible refine (compact_any U _ (hU.grows (by repeat' first | exact Grows.refl _ | refine Grows.more ?_ _ | refine Grows.alloc ?_ _ | refine Grows.drew ?_))).mono ?_)
  rw [hUL]
  rintro e w10 ⟨C, rfl, ⟨hC, -, m13, rfl⟩, -, hC1⟩
  rw [show min 1 ([[97], [120], [121], [99]] : List (List UInt8)).length = 1 from rfl] at hC1
  go_wp2_with fail
  (with_reducible refine (pieces_any C _ hC).mono ?_)
  rw [hC1]
  rintro e w9 ⟨rfl, rfl⟩
  go_wp2_with fail
  go_ret
  exact ⟨rfl, (by repeat' first | exact Grows.refl _ | refine Grows.more ?_ _ | refine Grows.alloc ?_ _ | refine Grows.drew ?_)⟩

/-- What Much answers. -/
def insSum (L : List Cut) : Nat := (L.map fun c => c.ins.length).sum
def MuchPost (L : List Cut) (w : World) (e : Ending) (w' : World) : Prop :=
  ∃ b, e = .returned (.bool b) ∧ (b = false → L.length ≤ 60 ∧ (∀ c ∈ L, c.ins.length ≤ 2100 ∧ byteSum c.ins ≤ 5000) ∧ insSum L ≤ 4000) ∧ w = w'
theorem insSum_take (L : List Cut) (k : Nat) (h : k < L.length) : insSum (L.take (k + 1)) = insSum (L.take k) + L[k].ins.length := by
  unfold insSum
  rw [List.take_add_one, List.getElem?_eq_getElem h, List.map_append, List.sum_append]
  simp
theorem insSum_le (L : List Cut) (h : ∀ c ∈ L, c.ins.length ≤ 2100 ∧ byteSum c.ins ≤ 5000) : insSum L ≤ L.length * 2100 := by
  induction L with
  | nil => simp [insSum]
  | cons c L ih =>
    have h1 := (h c (by simp)).1
    have h2 := ih (fun x hx => h x (by simp [hx]))
    simp only [insSum, List.map_cons, List.sum_cons, List.length_cons] at h2 ⊢
    omega
theorem wrap_wrap (a b : Int) : wrap64 (wrap64 a + b) = wrap64 (a + b) := by unfold wrap64; omega
theorem wrap_zero : wrap64 0 = 0 := by unfold wrap64; omega
set_option maxHeartbeats 2000000 in
theorem much_any (A : Option Addr) (cap : Nat) (L : List Cut) (w : World) (hL : CameCuts w A cap L) :
    Calls Try.prog 11 #[.slice A L.length cap] w (MuchPost L w) := by
  have HE := Lib.hid hL.each
  have hR := hL.rd
  have hlen := hL.len
  clear hL
  go_enter Try.func11, Try.ntmps11
  go_wp2_with fail
  go_loopg [3, 4] L.length (fun q n i wr => ∃ k : Nat, q + k = L.length ∧ i = .int .i64 k ∧ n = .int .i64 (wrap64 (insSum (L.take k))) ∧ wr = w ∧ ∀ c ∈ L.take k, c.ins.length ≤ 2100 ∧ byteSum c.ins ≤ 5000)
  case atStart => exact ⟨0, by omega, rfl, by simp [insSum, wrap_zero], rfl, by simp⟩
  case round =>
    obtain ⟨k, hq, rfl, rfl, rfl, hall⟩ := hrel
    have HQ := Lib.hid hq
    have HA := Lib.hid hall
    have hkl : k ≤ L.length := by omega
    clear hq hall
    by_cases h1 : k < L.length
    · obtain ⟨b, o, rfl, hb, e0, e1, e2⟩ := hR.cut k h1
      have hc := HE.out L[k] (List.getElem_mem h1)
      have HT := Lib.hid (insSum_take L k h1)
      obtain ⟨hrd, hnil, hln, heach, hle, hc6⟩ := hc.came
      have HL2 := Lib.hid heach
      clear hc hnil heach
      go_wp2_with fail
      (with_reducible refine (great_any L[k].A L[k].cap L[k].ins 2100 5000 _ hrd hln HL2.out (by decide) (by decide) (by decide) (by decide)).mono ?_)
      rintro e w1 ⟨g, rfl, hg, rfl⟩
      cases g with
      | true =>
        go_wp2_with fail
        go_ret
        exact ⟨true, rfl, fun h => (by cases h), rfl⟩
      | false =>
        have HG := Lib.hid (hg rfl)
        clear hg
        go_wp2_with fail
        go_roundg (gk - 1)
        case measure => have := HQ.out; omega
        case rel =>
          refine ⟨k + 1, by have := HQ.out; omega, by go_num, by rw [wrap_wrap, HT.out, Int.natCast_add], rfl, fun c hc => ?_⟩
          rw [List.take_add_one, List.getElem?_eq_getElem h1, List.mem_append] at hc
          rcases hc with hc | hc
          · exact HA.out c hc
          · obtain rfl : c = L[k] := by simpa using hc
            have := HG.out; omega
    · have hk : L.take k = L := List.take_of_length_le (by omega)
      rw [hk] at HA ⊢
      have hle := insSum_le L HA.out
      by_cases h60 : 60 < L.length
      · go_wp2_with fail
        go_ret
        exact ⟨true, rfl, fun h => (by cases h), rfl⟩
      · have hw : wrap64 (insSum L : Int) = insSum L := by unfold wrap64; omega
        rw [hw]
        by_cases h4 : 4000 < insSum L
        · go_wp2_with fail
          go_ret
          refine ⟨_, rfl, fun h => ?_, rfl⟩
          simp at h; omega
        · go_wp2_with fail
          go_ret
          exact ⟨_, rfl, fun _ => ⟨by omega, HA.out, by omega⟩, rfl⟩
end Go.Proofs.Ytblcggmbaofflaa
