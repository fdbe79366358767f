/-
  The law BreTimes, said of its row and of its card.
  BreTimes returns true for every two numbers and every form; its arguments read as they did. The row lists two tables of unicode/utf8 (one pinned); the card ties them to the program's text.
-/
import Derived.Test.YtpignlkojlbhkaaDoorPk43
import Derived.Test.YtpignlkojlbhkaaDoorPk45
import Derived.Test.YtpignlkojlbhkaaDoorPk46
import Derived.Test.YtpignlkojlbhkaaDoorTie
import Derived.Test.YtpignlkojlbhkaaDoorCards
namespace Go.Proofs.YtpignlkojlbhkaaDoor
open Go.ChangeShapes Go.WideShapes Go.ChangeAt Go.RowKit Go.Joins Go.ChangeMaps

set_option maxRecDepth 100000 in
theorem breTimes_lifted (os : Os) (started : os.Started) (H : Type) (enc : TypeId × Value → H) :
    ReturnsInHanded {} Tryd.checked os 8 .any (fun w args => (Rows.breTimesSpec.pre enc Tryd.prog Tryd.f8 Rows.breTimesRow.domain false w args ∧ laidMetH Tryd.prog Rows.breTimesRow.laid w) ∧ sizedMet enc Tryd.prog Tryd.f8 (OpenSpec.ofChange Rows.breTimesSpec) false w args) (Rows.breTimesSpec.post enc Tryd.prog Tryd.f8 false true false false) :=
  law_lifted_door (s := Rows.breTimesSpec) started (by kernel_rfl) Tryd.func8 rfl (by kernel_rfl) (by kernel_rfl)
    (fun ds h => by
      rw [show Tryd.f8.params.size = 3 by kernel_rfl] at h
      match ds, h with
      | [_, _, _], _ => rfl)
    (ChangeSpec.witness_shaped (enc := enc) (C := Tryd.checked) (os := os) (X := fun w _ => laidMetH Tryd.prog Rows.breTimesRow.laid w) false (World.laidAll Tryd.prog os Rows.breTimesRow.laid) #[.int .u16 0, .int .u16 0, .int .u8 0] 8 (World.laidAll_os _ _ _)
      (World.shaped_of_ZipB (by kernel_rfl) (by kernel_rfl)) (by kernel_rfl) (by kernel_rfl) (by kernel_rfl)
      (by rw [MakeChecks.laidMetH_plain _ _ _ (by kernel_rfl)]; exact laidMet_laidAll _ (by kernel_rfl) (by kernel_rfl)))
    (fun W base args ds p hval hA hsh => by
      rw [Tryd.params8] at hA hval
      obtain ⟨v0, v1, v2, d0, d1, d2, p0, p1, p2, rfl, rfl, rfl, h0, h1, h2⟩ := trodAll_three hA
      obtain ⟨a0, rfl, -, -, ha⟩ := open_int Tryd.underlying52 (hval 0 52 v0 rfl rfl) h0
      have ha := u16_wf ha
      obtain ⟨a, rfl⟩ : ∃ n : Nat, a0 = n := ⟨a0.toNat, by omega⟩
      obtain ⟨b0, rfl, -, -, hb⟩ := open_int Tryd.underlying52 (hval 1 52 v1 rfl rfl) h1
      have hb := u16_wf hb
      obtain ⟨b, rfl⟩ : ∃ n : Nat, b0 = n := ⟨b0.toNat, by omega⟩
      obtain ⟨f0, rfl, -, -, hf⟩ := open_int Tryd.underlying5 (hval 2 5 v2 rfl rfl) h2
      have hf := u8_wf hf
      obtain ⟨f, rfl⟩ : ∃ n : Nat, f0 = n := ⟨f0.toNat, by omega⟩
      exact bre_times a b f (by omega) (by omega) (by omega) W (sane_of_door hsh))

set_option maxRecDepth 3000 in
theorem breTimes_row : Rows.BreTimesSaid :=
  OpenClaim.holds_of_wide 8 Tryd.f8 rfl rfl rfl rfl rfl rfl rfl ⟨rfl, rfl, rfl, rfl, rfl⟩ rfl rfl rfl rfl rfl (by kernel_rfl) Tryd.func8 (by kernel_rfl)
    (of_decide_eq_true (by kernel_rfl)) (by unfold Func.isWrapper; first | (rw [if_pos (by decide +kernel)]; kernel_rfl) | (rw [if_neg (by decide +kernel)]; exact ⟨rfl, rfl⟩))
    (fun os started H enc _ => breTimes_lifted os started H enc)

set_option maxRecDepth 3000 in
theorem breTimes_holds : Rows.BreTimesCardSaid :=
  Claim7.holds_tied_plain_at .later [] [.data, .pinned] true Rows.breTimesCard.stood.harness true breTimes_row (fun _ h => by cases h) (by kernel_rfl) (fun _ h => by cases h) breTimes_row_tie rfl ⟨rfl, rfl⟩ (by kernel_rfl) rfl
    (fun f fn hf hfn => by
      obtain rfl : f = 8 := Option.some.inj ((show Tryd.prog.funcNamed "inkhorn/inkhornlaw09.BreTimes" = some 8 by kernel_rfl).symm.trans hf) |>.symm
      obtain rfl : fn = Tryd.f8 := (Option.some.inj (Tryd.func8.symm.trans hfn)).symm
      exact ⟨by kernel_rfl, fun j t ht => by
        rw [Tryd.params8] at ht
        have hm : t ∈ [52, 52, 5] := by simpa using Array.mem_of_getElem? ht
        have hall : ([52, 52, 5].all fun u => !Tryd.prog.wantsStandIn u) = true := by kernel_rfl
        exact (show Tryd.prog.wantsStandIn t = false by simpa using List.all_eq_true.1 hall t hm)⟩)
    (by kernel_rfl)

#print axioms breTimes_holds
end Go.Proofs.YtpignlkojlbhkaaDoor
