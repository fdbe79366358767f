/-
 A region that draws its order and holds calls that make memory: each operation lays a value of which something is known; what is known stays known in a greater world.
-/
import Derived.Test.YtnjagecmhdagkaaGreatDoorPk01
set_option linter.unusedSimpArgs false
set_option linter.unusedVariables false
set_option maxRecDepth 3000
namespace Go.Proofs.YtnjagecmhdagkaaGreatDoor
open Go.RowKit
def Ex (x:Value):World→Value→Prop:=fun _ v=>v=x
abbrev Spec:=World→Value→Prop
def Stays (S:Spec):Prop:=∀ w w' v,Grows w w'→S w v→S w' v
theorem Ex.stays (x:Value):Stays (Ex x):=fun _ _ _ _ h=>h
structure VJ (w0:World) (a0:Act) (T:List (Nat × Spec)) (done:Array Bool) (a:Act) (w:World):Prop where
 size:done.size=T.length
 tmps:a.tmps.size=a0.tmps.size
 defers:a.defers=a0.defers
 grows:Grows w0 w
 vals:∀ i d S,T[i]?=some (d,S)→done.getD i false=true→S w (a.eval (.tmp d))
 rest:∀ d,d ∉ T.map (·.1)→a.eval (.tmp d)=a0.eval (.tmp d)
theorem eval_putv (a:Act) (d t:Nat) (v:Value) (hd:d < a.tmps.size):(a.put (some d) v).eval (.tmp t)=if d=t then v else a.eval (.tmp t):=by
 simp only [Act.put,Act.eval,Array.getD_eq_getD_getElem?,Array.getElem?_setIfInBounds]
 by_cases h:d=t
 ·subst h;simp [hd]
 ·simp [h]
theorem done_setv {done:Array Bool} {i j:Nat} (hi:i < done.size):(done.setIfInBounds i true).getD j false=if i=j then true else done.getD j false:=by
 simp only [Array.getD_eq_getD_getElem?,Array.getElem?_setIfInBounds]
 by_cases h:i=j
 ·subst h;simp [hi]
 ·simp [h]
structure Tab (a0:Act) (T:List (Nat × Spec)):Prop where
 nodup:(T.map (·.1)).Nodup
 lt:∀ d ∈ T.map (·.1),d < a0.tmps.size
 stays:∀ p ∈ T,Stays p.2
section
variable {P:Program} {w0:World} {a0:Act} {T:List (Nat × Spec)} {done:Array Bool} {a:Act} {w w':World} {ops:Array Oper} {Q:Exit→Act→World→Prop} {i d:Nat} {S:Spec} {o:Oper} {v:Value}
theorem VJ.put (hJ:VJ w0 a0 T done a w) (hT:Tab a0 T) (hi:T[i]?=some (d,S)) (hg:Grows w w') (hv:S w' v):VJ w0 a0 T (done.setIfInBounds i true) (a.put (some d) v) w':=by
 have hlt:i < T.length:=(List.getElem?_eq_some_iff.1 hi).1
 have hmem:d ∈ T.map (·.1):=by
  have:=List.mem_of_getElem? hi
  exact List.mem_map.2 ⟨_,this,rfl⟩
 have hd:d < a.tmps.size:=by rw [hJ.tmps];exact hT.lt d hmem
 refine ⟨by simp [hJ.size],by simp [Act.put,hJ.tmps],hJ.defers,hJ.grows.trans hg,fun j e R hj hdn=>?_,fun t ht=>?_⟩
 ·rw [done_setv (by rw [hJ.size];exact hlt)] at hdn
  rw [eval_putv _ _ _ _ hd]
  by_cases hij:i=j
  ·subst hij
   rw [hi] at hj
   injection hj with hj
   injection hj with h1 h2
   subst h1 h2
   rw [if_pos rfl];exact hv
  ·rw [if_neg hij] at hdn
   have hne:d≠e:=by
    rintro rfl
    have hn:=hT.nodup
    have h1:(T.map (·.1))[i]?=some d:=by simp [hi]
    have h2:(T.map (·.1))[j]?=some d:=by simp [hj]
    exact hij ((List.getElem?_inj (by simpa using hlt) hn).1 (h1.trans h2.symm))
   rw [if_neg hne]
   exact hT.stays _ (List.mem_of_getElem? hj) _ _ _ hg (hJ.vals j e R hj hdn)
 ·rw [eval_putv _ _ _ _ hd,if_neg (show ¬d=t by rintro rfl;exact ht hmem)]
  exact hJ.rest t ht
theorem VJ.step (hJ:VJ w0 a0 T done a w) (hT:Tab a0 T) (hi:T[i]?=some (d,S)) (ho:ops[i]?=some o) (hd:o.dst=some d) (hw:Region.wanted o (yielded ops a.tmps)=true)
  (hrun:o.wp P a w (fun a' w'=>∃ v,a'=a.put (some d) v∧Grows w w'∧S w' v) Q):wpOp P ops Q i (VJ w0 a0 T (done.setIfInBounds i true)) a w:=by
 unfold wpOp
 rw [ho]
 simp only [hw,if_true]
 refine Or.inl (Oper.wp_mono ?_ hrun)
 rintro a' w' ⟨v,rfl,hg,hv⟩
 exact hJ.put hT hi hg hv
theorem VJ.pure_ (hJ:VJ w0 a0 T done a w) (hT:Tab a0 T) (hi:T[i]?=some (d,S)) (ho:ops[i]?=some o) (hd:o.dst=some d) (hw:Region.wanted o (yielded ops a.tmps)=true)
  (v:Value) (hrun:(execOp a.eval o).run P w=.ok (.value v) w) (hv:S w v):wpOp P ops Q i (VJ w0 a0 T (done.setIfInBounds i true)) a w:=by
 refine hJ.step hT hi ho hd hw ?_
 unfold Oper.wp
 rw [hrun,Oper.upon_value,hd]
 exact ⟨v,rfl,Grows.refl _,hv⟩
theorem VJ.call_ (hJ:VJ w0 a0 T done a w) (hT:Tab a0 T) (hi:T[i]?=some (d,S)) (ho:ops[i]?=some o) (hd:o.dst=some d) (hw:Region.wanted o (yielded ops a.tmps)=true)
  (f:FuncId) (args:Array Value) (hrun:(execOp a.eval o).run P w=.ok (.enter f args) w) (hc:Calls P f args w fun e w'=>∃ v,e=.returned v∧Grows w w'∧S w' v):wpOp P ops Q i (VJ w0 a0 T (done.setIfInBounds i true)) a w:=by
 refine hJ.step hT hi ho hd hw ?_
 unfold Oper.wp
 rw [hrun]
 simp only [Oper.upon]
 refine hc.mono ?_
 rintro e w' ⟨v,rfl,hg,hv⟩
 simp only []
 rw [hd]
 exact ⟨v,rfl,hg,hv⟩
theorem VJ.skip (hJ:VJ w0 a0 T done a w) (hT:Tab a0 T) (hi:T[i]?=some (d,S)) (ho:ops[i]?=some o) (hd:o.dst=some d) (hw:Region.wanted o (yielded ops a.tmps)=false) (hv:S w undef):wpOp P ops Q i (VJ w0 a0 T (done.setIfInBounds i true)) a w:=by
 unfold wpOp
 rw [ho]
 simp only [hw,hd]
 exact hJ.put hT hi (Grows.refl _) hv
theorem VJ.ex (hJ:VJ w0 a0 T done a w) {j e:Nat} {x:Value} (hj:T[j]?=some (e,Ex x)) (hr:i ∈ Region.ready .any ops done) (hd:depB ops i j=true):a.eval (.tmp e)=x:=hJ.vals j e _ hj (ready_dep hr hd)
theorem VJ.has (hJ:VJ w0 a0 T done a w) {j e:Nat} {R:Spec} (hj:T[j]?=some (e,R)) (hr:i ∈ Region.ready .any ops done) (hd:depB ops i j=true):R w (a.eval (.tmp e)):=hJ.vals j e _ hj (ready_dep hr hd)
theorem VJ.old (hJ:VJ w0 a0 T done a w) (e:Nat) {x:Value} (hx:a0.eval (.tmp e)=x) (hn:e ∉ T.map (·.1)):a.eval (.tmp e)=x:=(hJ.rest e hn).trans hx
end
theorem wanted_of {ops:Array Oper} {a:Act} {o ok:Oper} {k dk:Nat} {b c:Bool} (hg:o.guard=some (k,b)) (hk:ops[k]?=some ok) (hdk:ok.dst=some dk) (hv:a.eval (.tmp dk)=.bool c):Region.wanted o (yielded ops a.tmps)=(c == b):=by
 have h1:a.tmps[dk]?=some (.bool c):=by
  have h2:a.tmps.getD dk undef=.bool c:=hv
  rw [Array.getD_eq_getD_getElem?] at h2
  cases h:a.tmps[dk]? with
  | none=>rw [h] at h2;cases h2
  | some x=>rw [h] at h2;simp only [Option.getD_some] at h2;rw [h2]
 unfold Region.wanted yielded
 rw [hg]
 simp only [hk,hdk,Option.bind_some,h1]
 cases b <;> cases c <;> rfl
theorem stays_nil:∀ p ∈ ([]:List (Nat × Spec)),Stays p.2:=fun _ h=>by cases h
theorem stays_cons {T:List (Nat × Spec)} {d:Nat} {S:Spec} (h:Stays S) (hl:∀ p ∈ T,Stays p.2):∀ p ∈ (d,S)::T,Stays p.2:=fun p hp=>by
 rcases List.mem_cons.1 hp with rfl | hp
 ·exact h
 ·exact hl p hp
theorem tab_of {a0:Act} {T:List (Nat × Spec)} (n:Nat) (ds:List Nat) (h:T.map (·.1)=ds) (hn:a0.tmps.size=n) (hnd:ds.Nodup) (hlt:ds.all (fun d=>decide (d < n))=true) (hst:∀ p ∈ T,Stays p.2):Tab a0 T:=by
 subst h hn
 exact ⟨hnd,fun d hd=>by simpa using List.all_eq_true.1 hlt d hd,hst⟩
theorem region_vals {P:Program} {Q:Exit→Act→World→Prop} {id:Nat} {a:Act} {w:World} {l:List Oper} (T:List (Nat × Spec)) (hm:P.follows .mixedOrders=true) (hb:backB l=true) (hl:T.length=l.length) (hT:Tab a T)
  (hstep:Tab a T→∀ i done a' w',i < T.length→VJ w a T done a' w'→i ∈ Region.ready .any l.toArray done→wpOp P l.toArray Q i (VJ w a T (done.setIfInBounds i true)) a' w')
  (hend:∀ a' w',a'.tmps.size=a.tmps.size→a'.defers=a.defers→Grows w w'→(∀ (i d:Nat) (S:Spec),T[i]?=some (d,S)→S w' (a'.eval (.tmp d)))→(∀ d,d ∉ T.map (·.1)→a'.eval (.tmp d)=a.eval (.tmp d))→Q .normal a' w'):(Code.region id l.toArray true).wp P Q a w:=by
 refine region_all (J:=VJ w a T) hm hb (fun _ _ _ h=>h.size.trans hl) ?_ ?_ ?_
 ·refine ⟨by simp [hl],rfl,rfl,⟨⟨#[],w.drawn+1⟩,by simp [more]⟩,fun i d S _ h=>?_,fun d _=>rfl⟩
  rw [Array.getD_eq_getD_getElem?,Array.getElem?_replicate] at h
  split at h <;> simp at h
 ·intro done a' w' i hJ hr
  obtain ⟨_,o,ho,_⟩:=mem_ready.1 hr
  have:=(Array.getElem?_eq_some_iff.1 ho).1
  exact hstep hT i done a' w' (by rw [hl];simpa using this) hJ hr
 ·intro done a' w' hJ hd
  exact hend a' w' hJ.tmps hJ.defers hJ.grows (fun i d S hi=>hJ.vals i d S hi (hd i (by have:=(List.getElem?_eq_some_iff.1 hi).1;omega))) hJ.rest
end Go.Proofs.YtnjagecmhdagkaaGreatDoor
