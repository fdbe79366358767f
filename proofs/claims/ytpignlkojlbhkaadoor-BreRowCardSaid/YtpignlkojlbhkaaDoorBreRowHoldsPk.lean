/-
  The law BreRow, said of its row and of its card.
  BreRow returns true for every two texts; the texts read as they did. The row lists two tables of unicode/utf8 (one pinned); the card ties them to the program's text.
-/
import Derived.Test.YtpignlkojlbhkaaDoorPk44
import Derived.Test.YtpignlkojlbhkaaDoorPk45
import Derived.Test.YtpignlkojlbhkaaDoorPk46
import Derived.Test.YtpignlkojlbhkaaDoorTie
import Derived.Test.YtpignlkojlbhkaaDoorCards
namespace Go.Proofs.YtpignlkojlbhkaaDoor
open Go.ChangeShapes Go.WideShapes Go.ChangeAt Go.RowKit Go.Joins Go.ChangeMaps

set_option maxRecDepth 100000 in
theorem breRow_lifted (os : Os) (started : os.Started) (H : Type) (enc : TypeId × Value → H) :
    ReturnsInHanded {} Tryd.checked os 7 .any (fun w args => (Rows.breRowSpec.pre enc Tryd.prog Tryd.f7 Rows.breRowRow.domain false w args ∧ laidMetH Tryd.prog Rows.breRowRow.laid w) ∧ sizedMet enc Tryd.prog Tryd.f7 (OpenSpec.ofChange Rows.breRowSpec) false w args) (Rows.breRowSpec.post enc Tryd.prog Tryd.f7 false true false false) :=
  law_lifted_door (s := Rows.breRowSpec) started (by kernel_rfl) Tryd.func7 rfl (by kernel_rfl) (by kernel_rfl)
    (fun ds h => by
      rw [show Tryd.f7.params.size = 2 by kernel_rfl] at h
      match ds, h with
      | [_, _], _ => rfl)
    (ChangeSpec.witness_shaped (enc := enc) (C := Tryd.checked) (os := os) (X := fun w _ => laidMetH Tryd.prog Rows.breRowRow.laid w) false (World.laidAll Tryd.prog os Rows.breRowRow.laid) #[.string ByteArray.empty, .string ByteArray.empty] 8 (World.laidAll_os _ _ _)
      (World.shaped_of_ZipB (by kernel_rfl) (by kernel_rfl)) (by kernel_rfl) (by kernel_rfl) (by kernel_rfl)
      (by rw [MakeChecks.laidMetH_plain _ _ _ (by kernel_rfl)]; exact laidMet_laidAll _ (by kernel_rfl) (by kernel_rfl)))
    (fun W base args ds p hval hA hsh => by
      rw [Tryd.params7] at hA hval
      obtain ⟨v0, v1, d0, d1, p0, p1, rfl, rfl, rfl, h0, h1⟩ := trodAll_two hA
      obtain ⟨a, rfl, -, -, ha⟩ := open_string Tryd.underlying9 (hval 0 9 v0 rfl rfl) h0
      obtain ⟨b, rfl, -, -, hb⟩ := open_string Tryd.underlying9 (hval 1 9 v1 rfl rfl) h1
      exact (by have := bre_row a.data.toList b.data.toList W (sane_of_door hsh); rwa [tx_of, tx_of] at this))

set_option maxRecDepth 3000 in
theorem breRow_row : Rows.BreRowSaid :=
  OpenClaim.holds_of_wide 7 Tryd.f7 rfl rfl rfl rfl rfl rfl rfl ⟨rfl, rfl, rfl, rfl, rfl⟩ rfl rfl rfl rfl rfl (by kernel_rfl) Tryd.func7 (by kernel_rfl)
    (of_decide_eq_true (by kernel_rfl)) (by unfold Func.isWrapper; first | (rw [if_pos (by decide +kernel)]; kernel_rfl) | (rw [if_neg (by decide +kernel)]; exact ⟨rfl, rfl⟩))
    (fun os started H enc _ => breRow_lifted os started H enc)

set_option maxRecDepth 3000 in
theorem breRow_holds : Rows.BreRowCardSaid :=
  Claim7.holds_tied_plain_at .later [] [.data, .pinned] true Rows.breRowCard.stood.harness true breRow_row (fun _ h => by cases h) (by kernel_rfl) (fun _ h => by cases h) breRow_row_tie rfl ⟨rfl, rfl⟩ (by kernel_rfl) rfl
    (fun f fn hf hfn => by
      obtain rfl : f = 7 := Option.some.inj ((show Tryd.prog.funcNamed "inkhorn/inkhornlaw09.BreRow" = some 7 by kernel_rfl).symm.trans hf) |>.symm
      obtain rfl : fn = Tryd.f7 := (Option.some.inj (Tryd.func7.symm.trans hfn)).symm
      exact ⟨by kernel_rfl, fun j t ht => by
        rw [Tryd.params7] at ht
        have hm : t ∈ [9, 9] := by simpa using Array.mem_of_getElem? ht
        have hall : ([9, 9].all fun u => !Tryd.prog.wantsStandIn u) = true := by kernel_rfl
        exact (show Tryd.prog.wantsStandIn t = false by simpa using List.all_eq_true.1 hall t hm)⟩)
    (by kernel_rfl)

#print axioms breRow_holds
end Go.Proofs.YtpignlkojlbhkaaDoor
