/-
  The law BreNone, walked.
-/
import Derived.Test.YtpignlkojlbhkaaDoorPk44
namespace Go.Proofs.YtpignlkojlbhkaaDoor
open Go.RowKit

set_option maxRecDepth 3000 in
set_option maxHeartbeats 1000000 in
theorem bre_none (l : List UInt8) (w : World) (hs : Sane w) : Calls Tryd.prog 4 #[.string (tx l)] w fun e w' => e = .returned (.bool true) ∧ Grows w w' := by
  by_cases hl : 1000 < l.length
  · go_enter Tryd.func4, Tryd.ntmps4
    go_wp2_with fail
    go_ret
    exact ⟨rfl, Grows.refl _⟩
  · go_enter Tryd.func4, Tryd.ntmps4
    go_wp2_with fail
    go_loopg [3, 4] 2 (fun q v3 v4 wr => Grows w wr ∧ (q = 2 ∧ v4 = .int .i64 0 ∧ (∃ g, v3 = .pointer (some ⟨g, 0, none⟩) ∧ ReZ wr g) ∨ q = 1 ∧ v4 = .int .i64 1 ∧ v3 = .pointer none ∨ q = 0 ∧ v4 = .int .i64 2 ∧ v3 = .pointer none))
    case atStart =>
      have hb : blk (w.alloc (.cells #[.slice none 0 0, .int .i64 0, .int .i64 0, .bool false] 44)) w.heap.size = #[.slice none 0 0, .int .i64 0, .int .i64 0, .bool false] := blk_alloc_at w _ _ _ rfl
      have hc := fun i => Blk.cell hb (by decide) i
      exact ⟨(Grows.refl w).alloc _, .inl ⟨rfl, rfl, _, rfl, ⟨hc 0, hc 1, hc 2, hc 3⟩⟩⟩
    case round =>
      obtain ⟨hg, ⟨rfl, rfl, g, rfl, hz⟩ | ⟨rfl, rfl, rfl⟩ | ⟨rfl, rfl, rfl⟩⟩ := hrel
      · go_wp2_with fail
        (with_reducible refine (tree_zero hz).mono ?_)
        rintro e w2 ⟨A, cap, rfl, hA, k2⟩
        have hz := hz.grows k2
        go_wp2_with fail
        (with_reducible refine (groups_zero hz).mono ?_)
        rintro e w5 ⟨rfl, hw⟩
        subst hw
        go_wp2_with fail
        (with_reducible refine (refs_zero hz).mono ?_)
        rintro e w5 ⟨rfl, hw⟩
        subst hw
        go_wp2_with fail
        (with_reducible refine (parts_zero hz).mono ?_)
        rintro e w5 ⟨rfl, hw⟩
        subst hw
        go_wp2_with fail
        go_roundg 1
        case measure => omega
        case rel => exact ⟨hg.trans k2, .inr (.inl ⟨rfl, rfl, rfl⟩)⟩
      · go_wp2_with fail
        (with_reducible refine (tree_nil wr).mono ?_)
        rintro e w2 ⟨rfl, hw⟩
        subst hw
        go_wp2_with fail
        (with_reducible refine (groups_nil wr).mono ?_)
        rintro e w5 ⟨rfl, hw⟩
        subst hw
        go_wp2_with fail
        (with_reducible refine (refs_nil wr).mono ?_)
        rintro e w5 ⟨rfl, hw⟩
        subst hw
        go_wp2_with fail
        (with_reducible refine (parts_nil wr).mono ?_)
        rintro e w5 ⟨rfl, hw⟩
        subst hw
        go_wp2_with fail
        go_roundg 0
        case measure => omega
        case rel => exact ⟨hg, .inr (.inr ⟨rfl, rfl, rfl⟩)⟩
      · go_wp2_with fail
        (with_reducible refine (bre_parse l wr (by omega) (hs.grows hg)).mono ?_)
        intro e w5 hp
        cases hv : patV l with
        | none =>
          rw [hv] at hp
          obtain ⟨rfl, k2⟩ := hp
          go_wp2_with fail
          (with_reducible refine (does_any w5 ((hs.grows hg).grows k2)).mono ?_)
          rintro e w6 ⟨rfl, k3⟩
          go_wp2_with fail
          go_ret
          exact ⟨rfl, (hg.trans k2).trans k3⟩
        | some y =>
          rw [hv] at hp
          obtain ⟨g, rfl, -, -, k2⟩ := hp
          go_wp2_with fail
          (with_reducible refine (does_any w5 ((hs.grows hg).grows k2)).mono ?_)
          rintro e w6 ⟨rfl, k3⟩
          go_wp2_with fail
          go_ret
          exact ⟨rfl, (hg.trans k2).trans k3⟩
end Go.Proofs.YtpignlkojlbhkaaDoor
