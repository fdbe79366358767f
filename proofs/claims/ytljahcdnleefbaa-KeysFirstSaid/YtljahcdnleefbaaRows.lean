/-
  No cell of these rows narrows 'for every input' (looked for: loops, veiled, ifaces, maps, wideKeys, modest, calm, conditions, laid).
  DERIVED. THE GIVEN ROWS OF THIS SEAT. 3 by the template 'for every input the law returns true; each argument reads behind the call as it read before'; 0 by the template 'total and deterministic' (their statements: YtljahcdnleefbaaTotals.lean).
  GIVEN WITH THE SEED: the statements are not yours to turn. If you find one false, say at which input.
  Laid BY PROGRAM, IN A SANDBOX (cutbox-rows.mjs): the forced cells as the released guide's own fill.sh prints them over the translation cdf403deff266e15… (all of the seat's roots in one cut). By AI agents, Wed Nov 11 2026. No macro, syntax, notation, axiom, sorry.
-/
import Derived.Test.YtljahcdnleefbaaChecked
import GoSem.Claim
import GoSem.ClaimJoined
import GoSem.ClaimMapViews
import Derived.JoinedTies
import Derived.KernelRfl
namespace Go.Proofs.Ytljahcdnleefbaa
/- THE CELL 'sum', in the pinned program and in every row, IS THE sha256 OF THE DUMP (.gsa) THAT YtljahcdnleefbaaProg.lean LOADS. Nothing in Lean hashes anything: it is a label: what it is worth is what the hold of that sum in a sandbox is worth. -/
noncomputable def Try.pinned : Pinned := { name := "ytljahcdnleefbaa", sum := "cdf403deff266e156b3547b6580bd56826b856fc45a54cbf33aa34eab55d750c", checked := Try.checked }
namespace Rows
def none {H : Type} : Left H := { results := [], args := [] }

/-- 'inkhornlaw26.KeysFirst': WHATEVER THE INPUT: true; the input reads as it did. -/
def keysFirstSpec : ChangeSpec := { name := "keysFirst", fn := fun _ => fun
  | [d1, d2] => { results := [.lit (.bool true)], args := [d1, d2] }
  | _ => none }
def keysFirstRow : OpenClaim := { program := "ytljahcdnleefbaa", sum := "cdf403deff266e156b3547b6580bd56826b856fc45a54cbf33aa34eab55d750c", func := "inkhorn/inkhornlaw26.KeysFirst", spec := "keysFirst", inPlace := ["internal/bytealg.IndexByteString"], apart := false }
def KeysFirstSaid : Prop := keysFirstRow.holds Try.pinned (OpenSpec.ofChange keysFirstSpec)

/-- ITS FALSE NEIGHBOUR: 'it returns false'. Refute it at one input. -/
def keysFirstWrong : ChangeSpec := { name := "keysFirst", fn := fun _ => fun
  | [d1, d2] => { results := [.lit (.bool false)], args := [d1, d2] }
  | _ => none }
def KeysFirstWrongFalsely : Prop := keysFirstRow.holds Try.pinned (OpenSpec.ofChange keysFirstWrong)

/-- 'inkhornlaw26.KeysRead': WHATEVER THE INPUT: true; the input reads as it did. -/
def keysReadSpec : ChangeSpec := { name := "keysRead", fn := fun _ => fun
  | [d1, d2] => { results := [.lit (.bool true)], args := [d1, d2] }
  | _ => none }
def keysReadRow : OpenClaim := { program := "ytljahcdnleefbaa", sum := "cdf403deff266e156b3547b6580bd56826b856fc45a54cbf33aa34eab55d750c", func := "inkhorn/inkhornlaw26.KeysRead", spec := "keysRead", inPlace := ["internal/bytealg.IndexByteString"], apart := false }
def KeysReadSaid : Prop := keysReadRow.holds Try.pinned (OpenSpec.ofChange keysReadSpec)

/-- ITS FALSE NEIGHBOUR: 'it returns false'. Refute it at one input. -/
def keysReadWrong : ChangeSpec := { name := "keysRead", fn := fun _ => fun
  | [d1, d2] => { results := [.lit (.bool false)], args := [d1, d2] }
  | _ => none }
def KeysReadWrongFalsely : Prop := keysReadRow.holds Try.pinned (OpenSpec.ofChange keysReadWrong)

/-- 'inkhornlaw26.KeysMay': WHATEVER THE INPUT: true; the input reads as it did. -/
def keysMaySpec : ChangeSpec := { name := "keysMay", fn := fun _ => fun
  | [d] => { results := [.lit (.bool true)], args := [d] }
  | _ => none }
def keysMayRow : OpenClaim := { program := "ytljahcdnleefbaa", sum := "cdf403deff266e156b3547b6580bd56826b856fc45a54cbf33aa34eab55d750c", func := "inkhorn/inkhornlaw26.KeysMay", spec := "keysMay", inPlace := ["internal/bytealg.IndexByteString"], apart := false }
def KeysMaySaid : Prop := keysMayRow.holds Try.pinned (OpenSpec.ofChange keysMaySpec)

/-- ITS FALSE NEIGHBOUR: 'it returns false'. Refute it at one input. -/
def keysMayWrong : ChangeSpec := { name := "keysMay", fn := fun _ => fun
  | [d] => { results := [.lit (.bool false)], args := [d] }
  | _ => none }
def KeysMayWrongFalsely : Prop := keysMayRow.holds Try.pinned (OpenSpec.ofChange keysMayWrong)

/- THE SECOND FORM. 'bulk': how many values and letters a reading holds, each counted each time it is reached (what is shared counts as often as it is met; a slice's spare places count too). A statement '..UptoSaid' is the law's where the arguments, and the package variables that the reading takes, are together of bulk at most 1048576: NARROWER than '..Said'. Prove '..Said' where nothing that the law and all that it calls make is longer than what came in: it says more and counts as full. Else prove '..UptoSaid'. A law counts once. -/
mutual
def uptoBulk {H : Type} : DataW H → Nat
  | .lit (.string bytes) => bytes.length + 1
  | .lit _ => 1
  | .nil => 1
  | .ptr d => uptoBulk d + 1
  | .slice elems spare => uptoBulkAll elems + uptoBulkAll spare + 1
  | .agg parts => uptoBulkAll parts + 1
  | .iface _ d => uptoBulk d + 1
  | .map entries => uptoBulkEntries entries + 1
  | .held _ => 1
def uptoBulkAll {H : Type} : List (DataW H) → Nat
  | [] => 0
  | d :: r => uptoBulk d + uptoBulkAll r
def uptoBulkEntries {H : Type} : List (Lit × DataW H) → Nat
  | [] => 0
  | x :: r => uptoBulkEntry x + uptoBulkEntries r
def uptoBulkEntry {H : Type} : Lit × DataW H → Nat
  | (.string bytes, d) => bytes.length + uptoBulk d + 1
  | (_, d) => uptoBulk d + 1
 end
def uptoSmall : (H : Type) → List (DataW H) → Bool := fun _ ds => decide (uptoBulkAll ds ≤ 1048576)
def OpenSpec.upto (s : _root_.Go.ChangeSpec) : _root_.Go.OpenSpec := { _root_.Go.OpenSpec.ofChange s with cond := some uptoSmall }

/-- 'inkhornlaw26.KeysFirst', WHERE WHAT IT READS IS OF BULK AT MOST 1048576: true; the input reads as it did. -/
def keysFirstUptoRow : OpenClaim := { program := "ytljahcdnleefbaa", sum := "cdf403deff266e156b3547b6580bd56826b856fc45a54cbf33aa34eab55d750c", func := "inkhorn/inkhornlaw26.KeysFirst", spec := "keysFirst", inPlace := ["internal/bytealg.IndexByteString"], apart := false, narrowed := true }
def KeysFirstUptoSaid : Prop := keysFirstUptoRow.holds Try.pinned (OpenSpec.upto keysFirstSpec)

/-- 'inkhornlaw26.KeysRead', WHERE WHAT IT READS IS OF BULK AT MOST 1048576: true; the input reads as it did. -/
def keysReadUptoRow : OpenClaim := { program := "ytljahcdnleefbaa", sum := "cdf403deff266e156b3547b6580bd56826b856fc45a54cbf33aa34eab55d750c", func := "inkhorn/inkhornlaw26.KeysRead", spec := "keysRead", inPlace := ["internal/bytealg.IndexByteString"], apart := false, narrowed := true }
def KeysReadUptoSaid : Prop := keysReadUptoRow.holds Try.pinned (OpenSpec.upto keysReadSpec)

/-- 'inkhornlaw26.KeysMay', WHERE WHAT IT READS IS OF BULK AT MOST 1048576: true; the input reads as it did. -/
def keysMayUptoRow : OpenClaim := { program := "ytljahcdnleefbaa", sum := "cdf403deff266e156b3547b6580bd56826b856fc45a54cbf33aa34eab55d750c", func := "inkhorn/inkhornlaw26.KeysMay", spec := "keysMay", inPlace := ["internal/bytealg.IndexByteString"], apart := false, narrowed := true }
def KeysMayUptoSaid : Prop := keysMayUptoRow.holds Try.pinned (OpenSpec.upto keysMaySpec)

end Rows
end Go.Proofs.Ytljahcdnleefbaa
