/-
  Pieces: the contracts at pointers, as the laws' walks spell them.
-/
import Derived.Test.YtblcggmbaofflaaPiecesDoes
import Derived.Test.YtblcggmbaofflaaPiecesSpl
namespace Go.Proofs.Ytblcggmbaofflaa
open Go.RowKit

section
variable (T : Tbl) (w : World) (hT : T.ok w)
include hT
theorem len_ptr : Calls Try.prog 21 #[.pointer (some ⟨T.g, 0, none⟩)] w fun e w' => e = .returned (.int .i64 T.L.length) ∧ w = w' := len_any T w hT
theorem pieces_ptr : Calls Try.prog 28 #[.pointer (some ⟨T.g, 0, none⟩)] w fun e w' => e = .returned (.int .i64 T.ps.length) ∧ w = w' := pieces_any T w hT
theorem all_ptr : Calls Try.prog 20 #[.pointer (some ⟨T.g, 0, none⟩)] w (NewLines T.L w) := all_any T w hT
theorem line_ptr (i : Int) (hi : I64 i) : Calls Try.prog 24 #[.pointer (some ⟨T.g, 0, none⟩), .int .i64 i] w fun e w' => e = .returned (.tuple #[.string (tx ((rangeV T.L i i).headD [])), .bool (decide ((rangeV T.L i i).length = 1))]) ∧ Grows w w' := line_any T i w hT hi
theorem text_ptr (hj : (joinL T.L).length ≤ 140737488355000) : Calls Try.prog 22 #[.pointer (some ⟨T.g, 0, none⟩)] w fun e w' => e = .returned (.string (tx (joinL T.L))) ∧ Grows w w' := text_any T w hT hj
/-- A new table's answer, spelt. -/
def NewPost (d : List (List UInt8)) (w : World) (e : Ending) (w' : World) : Prop := ∃ T : Tbl, e = .returned (.pointer (some ⟨T.g, 0, none⟩)) ∧ T.ok w' ∧ T.L = d ∧ Grows w w' ∧ (∀ b, T.uses b → w.heap.size ≤ b) ∧ T.ps.length = min 1 d.length
theorem compact_ptr : Calls Try.prog 27 #[.pointer (some ⟨T.g, 0, none⟩)] w (NewPost T.L w) :=
  (compact_any T w hT).mono fun _ _ ⟨C, he, h, hu, hp⟩ => ⟨C, he, h.ok, h.lines, h.grows, hu, hp⟩
/-- What Splice answers, spelt as one. -/
def SplOut (T : Tbl) (x : List (List UInt8) × Int) (w : World) (e : Ending) (w' : World) : Prop :=
  ∃ v, e = .returned (.tuple #[v, .int .i64 x.2]) ∧ (x.2 ≠ 0 → v = .pointer none) ∧ (x.2 = 0 → ∃ U : Tbl, v = .pointer (some ⟨U.g, 0, none⟩) ∧ U.ok w' ∧ U.L = x.1 ∧ (∀ b, U.uses b → T.uses b ∨ w.heap.size ≤ b) ∧ U.ps.length ≤ T.ps.length + 2) ∧ Grows w w'
theorem splice_ptr (at_ del : Int) (I : Option Addr) (n ci : Nat) (ins : List (List UInt8)) (hn : n = ins.length) (hI : Rd w 1 I ins.length (lv ins)) (hnI : I = none → ins.length = 0 ∧ ci = 0) (hi : ins.length ≤ 1000000) (hl : ∀ s ∈ ins, s.length ≤ 9223372036854775807) (ha : I64 at_) (hd : I64 del) :
    Calls Try.prog 17 #[.pointer (some ⟨T.g, 0, none⟩), .int .i64 at_, .int .i64 del, .slice I n ci] w (SplOut T (spliceV T.L at_ del ins) w) := by
  refine (splice_n T at_ del I n ci ins w hT hn hI hnI hi hl ha hd).mono fun e w' h => ?_
  rcases h with ⟨h1, h2, h3⟩ | ⟨h1, U, h2, h3, h4, h5⟩
  · exact ⟨_, h2, fun _ => rfl, fun h => absurd h h1, h3⟩
  · exact ⟨U.val, by rw [h1]; exact h2, fun h => absurd h1 h, fun _ => ⟨U, rfl, h3.ok, h3.lines, h4, h5⟩, h3.grows⟩
end
theorem new_ptr (A : Option Addr) (n cap : Nat) (d : List (List UInt8)) (w : World) (hn : n = d.length) (hA : Rd w 1 A d.length (lv d)) (hd : d.length ≤ 1000000) (hnil : A = none → d.length = 0 ∧ cap = 0) (hl : ∀ s ∈ d, s.length ≤ 9223372036854775807) (hok : lcheckV d = 0) :
    Calls Try.prog 13 #[.slice A n cap] w (NewPost d w) :=
  (new_n A n cap d w hn hA hd hnil hl hok).mono fun _ _ ⟨C, he, h, hu, hp⟩ => ⟨C, he, h.ok, h.lines, h.grows, hu, hp⟩
/-- A table's pieces and its lines. -/
theorem Tbl.ok.none_iff {T : Tbl} {w : World} (h : T.ok w) : T.ps.length = 0 ↔ T.L.length = 0 := by
  constructor
  · intro h0
    unfold Tbl.L
    rw [List.eq_nil_of_length_eq_zero h0]; rfl
  · intro h0
    have := h.count
    rw [show partsL T.ps = T.L from rfl] at this
    omega
end Go.Proofs.Ytblcggmbaofflaa
