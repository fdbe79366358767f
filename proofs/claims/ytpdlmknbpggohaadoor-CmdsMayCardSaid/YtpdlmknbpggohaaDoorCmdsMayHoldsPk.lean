/-
  The law CmdsMay, said of its row and of its card.
  CmdsMay returns true for every line; its argument reads as it did. The row lists two tables of unicode/utf8 (one pinned); the card ties them to the program's text.
-/
import Derived.Test.YtpdlmknbpggohaaDoorPk45
import Derived.Test.YtpdlmknbpggohaaDoorPk46
import Derived.Test.YtpdlmknbpggohaaDoorTie
import Derived.Test.YtpdlmknbpggohaaDoorCards
namespace Go.Proofs.YtpdlmknbpggohaaDoor
open Go.ChangeShapes Go.WideShapes Go.ChangeAt Go.RowKit Go.Joins Go.ChangeMaps

set_option maxRecDepth 100000 in
theorem cmdsMay_lifted (os : Os) (started : os.Started) (H : Type) (enc : TypeId × Value → H) :
    ReturnsInHanded {} Tryd.checked os 3 .any (fun w args => (Rows.cmdsMaySpec.pre enc Tryd.prog Tryd.f3 Rows.cmdsMayRow.domain false w args ∧ laidMetH Tryd.prog Rows.cmdsMayRow.laid w) ∧ sizedMet enc Tryd.prog Tryd.f3 (OpenSpec.ofChange Rows.cmdsMaySpec) false w args) (Rows.cmdsMaySpec.post enc Tryd.prog Tryd.f3 false true false false) :=
  law_lifted_door (s := Rows.cmdsMaySpec) started (by kernel_rfl) Tryd.func3 rfl (by kernel_rfl) (by kernel_rfl)
    (fun ds h => by
      rw [show Tryd.f3.params.size = 1 by kernel_rfl] at h
      match ds, h with
      | [_], _ => rfl)
    (ChangeSpec.witness_shaped (enc := enc) (C := Tryd.checked) (os := os) (X := fun w _ => laidMetH Tryd.prog Rows.cmdsMayRow.laid w) false (World.laidAll Tryd.prog os Rows.cmdsMayRow.laid) #[.string ByteArray.empty] 8 (World.laidAll_os _ _ _)
      (World.shaped_of_ZipB (by kernel_rfl) (by kernel_rfl)) (by kernel_rfl) (by kernel_rfl) (by kernel_rfl)
      (by rw [MakeChecks.laidMetH_plain _ _ _ (by kernel_rfl)]; exact laidMet_laidAll _ (by kernel_rfl) (by kernel_rfl)))
    (fun W base args ds p hval hA hsh => by
      rw [Tryd.params3] at hA hval
      obtain ⟨v0, d0, rfl, rfl, h0⟩ := trodAll_one hA
      obtain ⟨l, rfl, -, -, hl⟩ := open_string Tryd.underlying9 (hval 0 9 v0 rfl rfl) h0
      exact cmds_may_law l.data.toList W (sane_of_door hsh))

set_option maxRecDepth 3000 in
theorem cmdsMay_row : Rows.CmdsMaySaid :=
  OpenClaim.holds_of_wide 3 Tryd.f3 rfl rfl rfl rfl rfl rfl rfl ⟨rfl, rfl, rfl, rfl, rfl⟩ rfl rfl rfl rfl rfl (by kernel_rfl) Tryd.func3 (by kernel_rfl)
    (of_decide_eq_true (by kernel_rfl)) (by unfold Func.isWrapper; first | (rw [if_pos (by decide +kernel)]; kernel_rfl) | (rw [if_neg (by decide +kernel)]; exact ⟨rfl, rfl⟩))
    (fun os started H enc _ => cmdsMay_lifted os started H enc)

set_option maxRecDepth 3000 in
theorem cmdsMay_holds : Rows.CmdsMayCardSaid :=
  Claim7.holds_tied_plain_at .later [] [.data, .pinned] true Rows.cmdsMayCard.stood.harness true cmdsMay_row (fun _ h => by cases h) (by kernel_rfl) (fun _ h => by cases h) cmdsMay_row_tie rfl ⟨rfl, rfl⟩ (by kernel_rfl) rfl
    (fun f fn hf hfn => by
      obtain rfl : f = 3 := Option.some.inj ((show Tryd.prog.funcNamed "inkhorn/inkhornlaw21.CmdsMay" = some 3 by kernel_rfl).symm.trans hf) |>.symm
      obtain rfl : fn = Tryd.f3 := (Option.some.inj (Tryd.func3.symm.trans hfn)).symm
      exact ⟨by kernel_rfl, fun j t ht => by
        rw [Tryd.params3] at ht
        have hm : t ∈ [9] := by simpa using Array.mem_of_getElem? ht
        have hall : ([9].all fun u => !Tryd.prog.wantsStandIn u) = true := by kernel_rfl
        exact (show Tryd.prog.wantsStandIn t = false by simpa using List.all_eq_true.1 hall t hm)⟩)
    (by kernel_rfl)

#print axioms cmdsMay_holds
end Go.Proofs.YtpdlmknbpggohaaDoor
