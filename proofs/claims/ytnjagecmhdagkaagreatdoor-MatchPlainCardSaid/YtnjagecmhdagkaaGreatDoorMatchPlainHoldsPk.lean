/-
 The law MatchPlain, said of its row and of its card.
 The match of any pattern without references, whatever fuel there is, is the document's. The row lists two tables of unicode/utf8 (one pinned); the card ties them to the program's text.
-/
import Derived.Test.YtnjagecmhdagkaaGreatDoorPk48
import Derived.Test.YtnjagecmhdagkaaGreatDoorPk49
import Derived.Test.YtnjagecmhdagkaaGreatDoorPk50
import Derived.Test.YtnjagecmhdagkaaGreatDoorPk42
import Derived.Test.YtnjagecmhdagkaaGreatDoorTie
import Derived.Test.YtnjagecmhdagkaaGreatDoorCards
set_option linter.unusedSimpArgs false
set_option linter.unusedVariables false
set_option maxRecDepth 3000
namespace Go.Proofs.YtnjagecmhdagkaaGreatDoor
open Go.ChangeShapes Go.WideShapes Go.ChangeAt Go.RowKit Go.Joins Go.ChangeMaps
set_option maxRecDepth 100000 in
set_option maxHeartbeats 4000000 in
theorem matchPlain_lifted (os:Os) (started:os.Started) (H:Type) (enc:TypeId × Value→H) :
  ReturnsInHanded {} Tryz.checked os 3 .any (fun w args=>(Rows.matchPlainSpec.pre enc Tryz.prog Tryz.f3 Rows.matchPlainRow.domain false w args∧laidMetH Tryz.prog Rows.matchPlainRow.laid w)∧sizedMet enc Tryz.prog Tryz.f3 (OpenSpec.ofChange Rows.matchPlainSpec) false w args) (Rows.matchPlainSpec.post enc Tryz.prog Tryz.f3 false true false false) :=
 law_lifted_doorT (s:=Rows.matchPlainSpec) started (by kernel_rfl) Tryz.func3 rfl (by kernel_rfl) (by kernel_rfl)
  (fun ds h=>by
   rw [show Tryz.f3.params.size=3 by kernel_rfl] at h
   match ds,h with
   | [_,_,_],_=>rfl)
  (ChangeSpec.witness_shaped (enc:=enc) (C:=Tryz.checked) (os:=os) (X:=fun w _=>laidMetH Tryz.prog Rows.matchPlainRow.laid w) false (World.laidAll Tryz.prog os Rows.matchPlainRow.laid) #[.string ByteArray.empty,.string ByteArray.empty,.agg #[.int .i64 0,.int .i64 0]] 8 (World.laidAll_os _ _ _)
   (World.shaped_of_ZipB (by kernel_rfl) (by kernel_rfl)) (by kernel_rfl) (by kernel_rfl) (by kernel_rfl)
   (by rw [MakeChecks.laidMetH_plain _ _ _ (by kernel_rfl)];exact laidMet_laidAll _ (by kernel_rfl) (by kernel_rfl)))
  (fun W base args ds p hval hA hsh hlaid=>by
   rw [Tryz.params3] at hA hval
   obtain ⟨v0,v1,v2,d0,d1,d2,p0,p1,p2,rfl,rfl,rfl,h0,h1,h2⟩:=trodAll_three hA
   obtain ⟨p,rfl,-,-,hp⟩:=open_string Tryz.underlying9 (hval 0 9 v0 rfl rfl) h0
   obtain ⟨s,rfl,-,-,hs⟩:=open_string Tryz.underlying9 (hval 1 9 v1 rfl rfl) h1
   obtain ⟨n1,n2,rfl,hn1,hn2⟩:=open_twoI (hval 2 22 v2 rfl rfl) h2
   exact match_plain p.data.toList s.data.toList n1 n2 W (sane_of_door hsh) (tz_of_laid (by kernel_rfl) (by kernel_rfl) hlaid) hn1 hn2)
theorem matchPlain_row:Rows.MatchPlainSaid :=
 OpenClaim.holds_of_wide 3 Tryz.f3 rfl rfl rfl rfl rfl rfl rfl ⟨rfl,rfl,rfl,rfl,rfl⟩ rfl rfl rfl rfl rfl (by kernel_rfl) Tryz.func3 (by kernel_rfl)
  (of_decide_eq_true (by kernel_rfl)) (by unfold Func.isWrapper;first | (rw [if_pos (by decide +kernel)];kernel_rfl) | (rw [if_neg (by decide +kernel)];exact ⟨rfl,rfl⟩))
  (fun os started H enc _=>matchPlain_lifted os started H enc)
theorem matchPlain_holds:Rows.MatchPlainCardSaid :=
 Claim7.holds_tied_plain_at .later [] [.data,.data,.pinned] true Rows.matchPlainCard.stood.harness true matchPlain_row (fun _ h=>by cases h) (by kernel_rfl) (fun _ h=>by cases h) matchPlain_row_tie rfl ⟨rfl,rfl⟩ (by kernel_rfl) rfl
  (fun f fn hf hfn=>by
   obtain rfl:f=3:=Option.some.inj ((show Tryz.prog.funcNamed "inkhorn/inkhornlaw10.MatchPlain"=some 3 by kernel_rfl).symm.trans hf) |>.symm
   obtain rfl:fn=Tryz.f3:=(Option.some.inj (Tryz.func3.symm.trans hfn)).symm
   exact ⟨by kernel_rfl,fun j t ht=>by
    rw [Tryz.params3] at ht
    have hm:t ∈ [9,9,22]:=by simpa using Array.mem_of_getElem? ht
    have hall:([9,9,22].all fun u=>!Tryz.prog.wantsStandIn u)=true:=by kernel_rfl
    exact (show Tryz.prog.wantsStandIn t=false by simpa using List.all_eq_true.1 hall t hm)⟩)
  (by kernel_rfl)
#print axioms matchPlain_holds
end Go.Proofs.YtnjagecmhdagkaaGreatDoor
