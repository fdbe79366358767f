/-
 The law MatchWays, said of its row and of its card.
 The match of a small pattern, with references or without, is the best of all its ways. The row lists two tables of unicode/utf8 (one pinned); the card ties them to the program's text.
-/
import Derived.Test.YtnjagecmhdagkaaGreatDoorPk49
import Derived.Test.YtnjagecmhdagkaaGreatDoorPk50
import Derived.Test.YtnjagecmhdagkaaGreatDoorTie
import Derived.Test.YtnjagecmhdagkaaGreatDoorCards
set_option linter.unusedSimpArgs false
set_option linter.unusedVariables false
set_option maxRecDepth 3000
namespace Go.Proofs.YtnjagecmhdagkaaGreatDoor
open Go.ChangeShapes Go.WideShapes Go.ChangeAt Go.RowKit Go.Joins Go.ChangeMaps
set_option maxRecDepth 100000 in
set_option maxHeartbeats 4000000 in
theorem matchWays_lifted (os:Os) (started:os.Started) (H:Type) (enc:TypeId × Value→H) :
  ReturnsInHanded {} Tryz.checked os 5 .any (fun w args=>(Rows.matchWaysSpec.pre enc Tryz.prog Tryz.f5 Rows.matchWaysRow.domain false w args∧laidMetH Tryz.prog Rows.matchWaysRow.laid w)∧sizedMet enc Tryz.prog Tryz.f5 (OpenSpec.ofChange Rows.matchWaysSpec) false w args) (Rows.matchWaysSpec.post enc Tryz.prog Tryz.f5 false true false false) :=
 law_lifted_doorT (s:=Rows.matchWaysSpec) started (by kernel_rfl) Tryz.func5 rfl (by kernel_rfl) (by kernel_rfl)
  (fun ds h=>by
   rw [show Tryz.f5.params.size=3 by kernel_rfl] at h
   match ds,h with
   | [_,_,_],_=>rfl)
  (ChangeSpec.witness_shaped (enc:=enc) (C:=Tryz.checked) (os:=os) (X:=fun w _=>laidMetH Tryz.prog Rows.matchWaysRow.laid w) false (World.laidAll Tryz.prog os Rows.matchWaysRow.laid) #[.string ByteArray.empty,.string ByteArray.empty,.int .i64 0] 8 (World.laidAll_os _ _ _)
   (World.shaped_of_ZipB (by kernel_rfl) (by kernel_rfl)) (by kernel_rfl) (by kernel_rfl) (by kernel_rfl)
   (by rw [MakeChecks.laidMetH_plain _ _ _ (by kernel_rfl)];exact laidMet_laidAll _ (by kernel_rfl) (by kernel_rfl)))
  (fun W base args ds p hval hA hsh hlaid=>by
   rw [Tryz.params5] at hA hval
   obtain ⟨v0,v1,v2,d0,d1,d2,p0,p1,p2,rfl,rfl,rfl,h0,h1,h2⟩:=trodAll_three hA
   obtain ⟨p,rfl,-,-,hp⟩:=open_string Tryz.underlying9 (hval 0 9 v0 rfl rfl) h0
   obtain ⟨s,rfl,-,-,hs⟩:=open_string Tryz.underlying9 (hval 1 9 v1 rfl rfl) h1
   obtain ⟨k,rfl,-,-,hk⟩:=open_int Tryz.underlying3 (hval 2 3 v2 rfl rfl) h2
   exact match_ways p.data.toList s.data.toList k W (sane_of_door hsh) (tz_of_laid (by kernel_rfl) (by kernel_rfl) hlaid) (i64_wf hk))
theorem matchWays_row:Rows.MatchWaysSaid :=
 OpenClaim.holds_of_wide 5 Tryz.f5 rfl rfl rfl rfl rfl rfl rfl ⟨rfl,rfl,rfl,rfl,rfl⟩ rfl rfl rfl rfl rfl (by kernel_rfl) Tryz.func5 (by kernel_rfl)
  (of_decide_eq_true (by kernel_rfl)) (by unfold Func.isWrapper;first | (rw [if_pos (by decide +kernel)];kernel_rfl) | (rw [if_neg (by decide +kernel)];exact ⟨rfl,rfl⟩))
  (fun os started H enc _=>matchWays_lifted os started H enc)
theorem matchWays_holds:Rows.MatchWaysCardSaid :=
 Claim7.holds_tied_plain_at .later [] [.data,.data,.pinned] true Rows.matchWaysCard.stood.harness true matchWays_row (fun _ h=>by cases h) (by kernel_rfl) (fun _ h=>by cases h) matchWays_row_tie rfl ⟨rfl,rfl⟩ (by kernel_rfl) rfl
  (fun f fn hf hfn=>by
   obtain rfl:f=5:=Option.some.inj ((show Tryz.prog.funcNamed "inkhorn/inkhornlaw10.MatchWays"=some 5 by kernel_rfl).symm.trans hf) |>.symm
   obtain rfl:fn=Tryz.f5:=(Option.some.inj (Tryz.func5.symm.trans hfn)).symm
   exact ⟨by kernel_rfl,fun j t ht=>by
    rw [Tryz.params5] at ht
    have hm:t ∈ [9,9,3]:=by simpa using Array.mem_of_getElem? ht
    have hall:([9,9,3].all fun u=>!Tryz.prog.wantsStandIn u)=true:=by kernel_rfl
    exact (show Tryz.prog.wantsStandIn t=false by simpa using List.all_eq_true.1 hall t hm)⟩)
  (by kernel_rfl)
#print axioms matchWays_holds
end Go.Proofs.YtnjagecmhdagkaaGreatDoor
