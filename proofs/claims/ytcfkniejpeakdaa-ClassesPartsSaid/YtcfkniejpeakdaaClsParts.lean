/-
  Classes: the law ClassesParts.
-/
import Derived.Test.YtcfkniejpeakdaaPartsW0
import Derived.Test.YtcfkniejpeakdaaPartsW1
import Derived.Test.YtcfkniejpeakdaaPartsW2
namespace Go.Proofs.Ytcfkniejpeakdaa
open Go.RowKit

theorem classesParts_law (c : Int) (w : World) (hs : Sane w) (hc : 0 ≤ c ∧ c ≤ 255) : Calls Try.prog 8 #[.int .u8 c] w fun e w' => e = .returned (.bool true) ∧ Grows w w' := by
  obtain ⟨k, rfl⟩ : ∃ k : Nat, c = k := ⟨c.toNat, by omega⟩
  rcases zones2 k (by omega) with h | h | h | h | h | h | h | h | h | h | h
  · exact parts_zone0 k w hs h
  · exact parts_zone1 k w hs h
  · exact parts_zone2 k w hs h
  · exact parts_zone3 k w hs h
  · exact parts_zone4 k w hs h
  · exact parts_zone5 k w hs h
  · exact parts_zone6 k w hs h
  · exact parts_zone7 k w hs h
  · exact parts_zone8 k w hs h
  · exact parts_zone9 k w hs h
  · exact parts_zone10 k w hs h
end Go.Proofs.Ytcfkniejpeakdaa
