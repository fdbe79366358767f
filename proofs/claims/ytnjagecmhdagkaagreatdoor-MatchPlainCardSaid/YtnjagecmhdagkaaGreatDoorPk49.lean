/-
 Several texts of the proof: OpenCells, OpenInts.
-/
import Derived.Test.YtnjagecmhdagkaaGreatDoorPk42
set_option linter.unusedSimpArgs false
set_option linter.unusedVariables false
set_option maxRecDepth 3000
/-
  Arrays that come in as arguments, opened: of elements of one cell each.
-/
namespace Go.Proofs.YtnjagecmhdagkaaGreatDoor
open Go.ChangeShapes Go.WideShapes Go.ChangeAt Go.RowKit Go.Joins
section
variable {H:Type} {enc:TypeId × Value→H} {W:World} {base b0:Nat} {spare:Nat→Bool} {held:Bool}
theorem open_arr {t e:TypeId} {n:Nat} {v:Value} {d:DataW H} {p:List MemPlace} (ht:Tryz.prog.underlying t=some (.array n e)) (hc:Tryz.prog.cellsOf e=1) (hn:Tryz.prog.cellsOf t=n)
  (hv:Value.okWide Tryz.prog W .any b0 t v) (h:DataW.Trod enc Tryz.prog W base spare held t v d p):∃ cs:List Value,v=.agg cs.toArray∧cs.length=n∧∀ i (hi:i < cs.length),∃ m y,DataW.trod enc Tryz.prog W base spare held m e [cs[i]]=some y:=by
 simp only [Value.okWide,ht] at hv
 obtain ⟨cs,rfl,hsz,_⟩:=hv
 obtain ⟨fuel,hf⟩:=h
 obtain ⟨xs,m,_,_,hlen,_,hi⟩:=DataW.trod_array ht hf
 refine ⟨cs.toList,by simp,by simp;omega,fun i hil=>?_⟩
 have hin:i < n:=by simp at hil;omega
 have h1:=hi i hin
 rw [hc,Nat.mul_one] at h1
 have h2:((Value.agg cs).cells.toList.drop i).take 1=[cs.toList[i]]:=by
  show (cs.toList.drop i).take 1=_
  rw [List.drop_eq_getElem_cons hil]
  rfl
 rw [h2] at h1
 have h3:xs[i]?=some (xs[i]'(by omega)):=List.getElem?_eq_getElem (by omega)
 rw [h3] at h1
 exact ⟨m,_,h1⟩
end
end Go.Proofs.YtnjagecmhdagkaaGreatDoor
namespace Go.Proofs.YtnjagecmhdagkaaGreatDoor
open Go.ChangeShapes Go.WideShapes Go.ChangeAt Go.RowKit Go.Joins
section
variable {H:Type} {enc:TypeId × Value→H} {W:World} {base b0:Nat} {spare:Nat→Bool} {held:Bool}
theorem open_twoI {v:Value} {d:DataW H} {p:List MemPlace} (hv:Value.okWide Tryz.prog W .any b0 22 v) (h:DataW.Trod enc Tryz.prog W base spare held 22 v d p) :
  ∃ a b:Int,v=.agg #[.int .i64 a,.int .i64 b]∧I64 a∧I64 b:=by
 obtain ⟨cs,rfl,hl,hc⟩:=open_arr (n:=2) Tryz.underlying22 (by kernel_rfl) (by kernel_rfl) hv h
 match cs,hl with
 | [a,b],_ =>
  obtain ⟨m1,y1,t1⟩:=hc 0 (by simp)
  obtain ⟨m2,y2,t2⟩:=hc 1 (by simp)
  obtain ⟨x,q1,_,w1⟩:=DataW.trod_int Tryz.underlying3 t1
  obtain ⟨y,q2,_,w2⟩:=DataW.trod_int Tryz.underlying3 t2
  simp at q1 q2
  exact ⟨x,y,by rw [q1,q2],i64_wf w1,i64_wf w2⟩
end
end Go.Proofs.YtnjagecmhdagkaaGreatDoor
