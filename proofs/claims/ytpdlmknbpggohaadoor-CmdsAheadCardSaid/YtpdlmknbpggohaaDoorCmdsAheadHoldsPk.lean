/-
  The law CmdsAhead, said of its row and of its card.
  CmdsAhead returns true for every line, every number of blanks and every number; its arguments read as they did. The row lists two tables of unicode/utf8 (one pinned); the card ties them to the program's text.
-/
import Derived.Test.YtpdlmknbpggohaaDoorPk45
import Derived.Test.YtpdlmknbpggohaaDoorPk46
import Derived.Test.YtpdlmknbpggohaaDoorTie
import Derived.Test.YtpdlmknbpggohaaDoorCards
namespace Go.Proofs.YtpdlmknbpggohaaDoor
open Go.ChangeShapes Go.WideShapes Go.ChangeAt Go.RowKit Go.Joins Go.ChangeMaps

set_option maxRecDepth 100000 in
theorem cmdsAhead_lifted (os : Os) (started : os.Started) (H : Type) (enc : TypeId × Value → H) :
    ReturnsInHanded {} Tryd.checked os 4 .any (fun w args => (Rows.cmdsAheadSpec.pre enc Tryd.prog Tryd.f4 Rows.cmdsAheadRow.domain false w args ∧ laidMetH Tryd.prog Rows.cmdsAheadRow.laid w) ∧ sizedMet enc Tryd.prog Tryd.f4 (OpenSpec.ofChange Rows.cmdsAheadSpec) false w args) (Rows.cmdsAheadSpec.post enc Tryd.prog Tryd.f4 false true false false) :=
  law_lifted_door (s := Rows.cmdsAheadSpec) started (by kernel_rfl) Tryd.func4 rfl (by kernel_rfl) (by kernel_rfl)
    (fun ds h => by
      rw [show Tryd.f4.params.size = 3 by kernel_rfl] at h
      match ds, h with
      | [_, _, _], _ => rfl)
    (ChangeSpec.witness_shaped (enc := enc) (C := Tryd.checked) (os := os) (X := fun w _ => laidMetH Tryd.prog Rows.cmdsAheadRow.laid w) false (World.laidAll Tryd.prog os Rows.cmdsAheadRow.laid) #[.string ByteArray.empty, .int .u8 0, .int .u16 0] 8 (World.laidAll_os _ _ _)
      (World.shaped_of_ZipB (by kernel_rfl) (by kernel_rfl)) (by kernel_rfl) (by kernel_rfl) (by kernel_rfl)
      (by rw [MakeChecks.laidMetH_plain _ _ _ (by kernel_rfl)]; exact laidMet_laidAll _ (by kernel_rfl) (by kernel_rfl)))
    (fun W base args ds p hval hA hsh => by
      rw [Tryd.params4] at hA hval
      obtain ⟨v0, v1, v2, d0, d1, d2, p0, p1, p2, rfl, rfl, rfl, h0, h1, h2⟩ := trodAll_three hA
      obtain ⟨l, rfl, -, -, hl⟩ := open_string Tryd.underlying9 (hval 0 9 v0 rfl rfl) h0
      obtain ⟨b0, rfl, -, -, hb⟩ := open_int Tryd.underlying5 (hval 1 5 v1 rfl rfl) h1
      have hb := u8_wf hb
      obtain ⟨b, rfl⟩ : ∃ n : Nat, b0 = n := ⟨b0.toNat, by omega⟩
      obtain ⟨n0, rfl, -, -, hn⟩ := open_int Tryd.underlying46 (hval 2 46 v2 rfl rfl) h2
      have hn := u16_wf hn
      obtain ⟨n, rfl⟩ : ∃ n : Nat, n0 = n := ⟨n0.toNat, by omega⟩
      exact cmds_ahead_law l.data.toList b n (by omega) (by omega) W (sane_of_door hsh))

set_option maxRecDepth 3000 in
theorem cmdsAhead_row : Rows.CmdsAheadSaid :=
  OpenClaim.holds_of_wide 4 Tryd.f4 rfl rfl rfl rfl rfl rfl rfl ⟨rfl, rfl, rfl, rfl, rfl⟩ rfl rfl rfl rfl rfl (by kernel_rfl) Tryd.func4 (by kernel_rfl)
    (of_decide_eq_true (by kernel_rfl)) (by unfold Func.isWrapper; first | (rw [if_pos (by decide +kernel)]; kernel_rfl) | (rw [if_neg (by decide +kernel)]; exact ⟨rfl, rfl⟩))
    (fun os started H enc _ => cmdsAhead_lifted os started H enc)

set_option maxRecDepth 3000 in
theorem cmdsAhead_holds : Rows.CmdsAheadCardSaid :=
  Claim7.holds_tied_plain_at .later [] [.data, .pinned] true Rows.cmdsAheadCard.stood.harness true cmdsAhead_row (fun _ h => by cases h) (by kernel_rfl) (fun _ h => by cases h) cmdsAhead_row_tie rfl ⟨rfl, rfl⟩ (by kernel_rfl) rfl
    (fun f fn hf hfn => by
      obtain rfl : f = 4 := Option.some.inj ((show Tryd.prog.funcNamed "inkhorn/inkhornlaw21.CmdsAhead" = some 4 by kernel_rfl).symm.trans hf) |>.symm
      obtain rfl : fn = Tryd.f4 := (Option.some.inj (Tryd.func4.symm.trans hfn)).symm
      exact ⟨by kernel_rfl, fun j t ht => by
        rw [Tryd.params4] at ht
        have hm : t ∈ [9, 5, 46] := by simpa using Array.mem_of_getElem? ht
        have hall : ([9, 5, 46].all fun u => !Tryd.prog.wantsStandIn u) = true := by kernel_rfl
        exact (show Tryd.prog.wantsStandIn t = false by simpa using List.all_eq_true.1 hall t hm)⟩)
    (by kernel_rfl)

#print axioms cmdsAhead_holds
end Go.Proofs.YtpdlmknbpggohaaDoor
