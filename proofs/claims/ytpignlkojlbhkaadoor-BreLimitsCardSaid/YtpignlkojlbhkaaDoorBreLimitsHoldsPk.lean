/-
  The law BreLimits, said of its row and of its card.
  BreLimits returns true for every two numbers; its arguments read as they did. The row lists two tables of unicode/utf8 (one pinned); the card ties them to the program's text.
-/
import Derived.Test.YtpignlkojlbhkaaDoorPk43
import Derived.Test.YtpignlkojlbhkaaDoorPk45
import Derived.Test.YtpignlkojlbhkaaDoorPk46
import Derived.Test.YtpignlkojlbhkaaDoorTie
import Derived.Test.YtpignlkojlbhkaaDoorCards
namespace Go.Proofs.YtpignlkojlbhkaaDoor
open Go.ChangeShapes Go.WideShapes Go.ChangeAt Go.RowKit Go.Joins Go.ChangeMaps

set_option maxRecDepth 100000 in
theorem breLimits_lifted (os : Os) (started : os.Started) (H : Type) (enc : TypeId × Value → H) :
    ReturnsInHanded {} Tryd.checked os 9 .any (fun w args => (Rows.breLimitsSpec.pre enc Tryd.prog Tryd.f9 Rows.breLimitsRow.domain false w args ∧ laidMetH Tryd.prog Rows.breLimitsRow.laid w) ∧ sizedMet enc Tryd.prog Tryd.f9 (OpenSpec.ofChange Rows.breLimitsSpec) false w args) (Rows.breLimitsSpec.post enc Tryd.prog Tryd.f9 false true false false) :=
  law_lifted_door (s := Rows.breLimitsSpec) started (by kernel_rfl) Tryd.func9 rfl (by kernel_rfl) (by kernel_rfl)
    (fun ds h => by
      rw [show Tryd.f9.params.size = 2 by kernel_rfl] at h
      match ds, h with
      | [_, _], _ => rfl)
    (ChangeSpec.witness_shaped (enc := enc) (C := Tryd.checked) (os := os) (X := fun w _ => laidMetH Tryd.prog Rows.breLimitsRow.laid w) false (World.laidAll Tryd.prog os Rows.breLimitsRow.laid) #[.int .u8 0, .int .u8 0] 8 (World.laidAll_os _ _ _)
      (World.shaped_of_ZipB (by kernel_rfl) (by kernel_rfl)) (by kernel_rfl) (by kernel_rfl) (by kernel_rfl)
      (by rw [MakeChecks.laidMetH_plain _ _ _ (by kernel_rfl)]; exact laidMet_laidAll _ (by kernel_rfl) (by kernel_rfl)))
    (fun W base args ds p hval hA hsh => by
      rw [Tryd.params9] at hA hval
      obtain ⟨v0, v1, d0, d1, p0, p1, rfl, rfl, rfl, h0, h1⟩ := trodAll_two hA
      obtain ⟨a0, rfl, -, -, ha⟩ := open_int Tryd.underlying5 (hval 0 5 v0 rfl rfl) h0
      have ha := u8_wf ha
      obtain ⟨a, rfl⟩ : ∃ n : Nat, a0 = n := ⟨a0.toNat, by omega⟩
      obtain ⟨b0, rfl, -, -, hb⟩ := open_int Tryd.underlying5 (hval 1 5 v1 rfl rfl) h1
      have hb := u8_wf hb
      obtain ⟨b, rfl⟩ : ∃ n : Nat, b0 = n := ⟨b0.toNat, by omega⟩
      exact bre_limits a b (by omega) (by omega) W (sane_of_door hsh))

set_option maxRecDepth 3000 in
theorem breLimits_row : Rows.BreLimitsSaid :=
  OpenClaim.holds_of_wide 9 Tryd.f9 rfl rfl rfl rfl rfl rfl rfl ⟨rfl, rfl, rfl, rfl, rfl⟩ rfl rfl rfl rfl rfl (by kernel_rfl) Tryd.func9 (by kernel_rfl)
    (of_decide_eq_true (by kernel_rfl)) (by unfold Func.isWrapper; first | (rw [if_pos (by decide +kernel)]; kernel_rfl) | (rw [if_neg (by decide +kernel)]; exact ⟨rfl, rfl⟩))
    (fun os started H enc _ => breLimits_lifted os started H enc)

set_option maxRecDepth 3000 in
theorem breLimits_holds : Rows.BreLimitsCardSaid :=
  Claim7.holds_tied_plain_at .later [] [.data, .pinned] true Rows.breLimitsCard.stood.harness true breLimits_row (fun _ h => by cases h) (by kernel_rfl) (fun _ h => by cases h) breLimits_row_tie rfl ⟨rfl, rfl⟩ (by kernel_rfl) rfl
    (fun f fn hf hfn => by
      obtain rfl : f = 9 := Option.some.inj ((show Tryd.prog.funcNamed "inkhorn/inkhornlaw09.BreLimits" = some 9 by kernel_rfl).symm.trans hf) |>.symm
      obtain rfl : fn = Tryd.f9 := (Option.some.inj (Tryd.func9.symm.trans hfn)).symm
      exact ⟨by kernel_rfl, fun j t ht => by
        rw [Tryd.params9] at ht
        have hm : t ∈ [5, 5] := by simpa using Array.mem_of_getElem? ht
        have hall : ([5, 5].all fun u => !Tryd.prog.wantsStandIn u) = true := by kernel_rfl
        exact (show Tryd.prog.wantsStandIn t = false by simpa using List.all_eq_true.1 hall t hm)⟩)
    (by kernel_rfl)

#print axioms breLimits_holds
end Go.Proofs.YtpignlkojlbhkaaDoor
