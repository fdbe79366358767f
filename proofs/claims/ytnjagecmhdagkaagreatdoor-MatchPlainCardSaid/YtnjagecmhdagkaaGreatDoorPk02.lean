/-
 Several texts of the proof: Named, Tail, Sets, Class.
-/
import Derived.Test.YtnjagecmhdagkaaGreatDoorPk01
import Derived.Test.YtnjagecmhdagkaaGreatDoorPk00
import Derived.StillTail
import Derived.Deep.LoopGhost
set_option linter.unusedSimpArgs false
set_option linter.unusedVariables false
set_option maxRecDepth 3000
/-
  Classes: named, walked.
-/
namespace Go.Proofs.YtnjagecmhdagkaaGreatDoor
open Go.RowKit Go.MapKept
def IsMap (lo:Nat) (w:World) (r:Nat):Prop:=∃ es clk,w.heap[r]?=some (.map es clk)∧StrKeys es.toList∧∀ k,match clsOf k with
 | none=>look es.toList k=none
 | some (_,p)=>∃ v,look es.toList k=some v∧Tells lo w v p
theorem none_done (n i:Nat):(Array.replicate n false).getD i false=false:=by
 simp only [Array.getD_eq_getD_getElem?,Array.getElem?_replicate]
 split <;> rfl
theorem region_from {P:Program} {Q:Exit→Act→World→Prop} {id:Nat} {a:Act} {w:World} {l:List Oper} (J:Act→Array Bool→Act→World→Prop) (hm:P.follows .mixedOrders=true) (hb:backB l=true) (hsz:∀ a0 done a w,J a0 done a w→done.size=l.length)
  (hstart:J a (Array.replicate l.length false) a { w with drawn:=w.drawn+1 })
  (hstep:∀ done a' w i,J a done a' w→i ∈ Region.ready .any l.toArray done→wpOp P l.toArray Q i (J a (done.setIfInBounds i true)) a' w)
  (hend:∀ done a' w,J a done a' w→(∀ i,i < l.length→done.getD i false=true)→Q .normal a' w):(Code.region id l.toArray true).wp P Q a w :=
 region_all (J:=J a) hm hb (fun done a' w h=>hsz _ _ _ _ h) hstart hstep hend
set_option maxRecDepth 100000 in
set_option maxHeartbeats 4000000 in
theorem named_any (w:World):Calls Tryz.prog 101 #[] w fun e w'=>∃ r,e=.returned (.map (some r))∧IsMap w.heap.size w' r∧Grows w w':=by
 go_enter Tryz.func101,Tryz.ntmps101
 go_wp2_with fail
 (with_reducible refine (span_any 97 122 _).mono ?_)
 rintro e w1 ⟨v1,rfl,h1,m1,rfl⟩
 obtain ⟨f1,k1,rfl⟩:=h1.form
 have h1:=h1.mono (show w.heap.size≤_ by simp [go_sem];try omega)
 go_wp2_with fail
 (with_reducible refine (span_any 65 90 _).mono ?_)
 rintro e w1 ⟨v2,rfl,h2,m2,rfl⟩
 obtain ⟨f2,k2,rfl⟩:=h2.form
 have h2:=h2.mono (show w.heap.size≤_ by simp [go_sem];try omega)
 go_wp2_with fail
 (with_reducible refine (span_any 48 57 _).mono ?_)
 rintro e w1 ⟨v3,rfl,h3,m3,rfl⟩
 obtain ⟨f3,k3,rfl⟩:=h3.form
 have h3:=h3.mono (show w.heap.size≤_ by simp [go_sem];try omega)
 go_wp2_with fail
 (with_reducible refine (some_new #[.func (.func f1) #[] k1,.func (.func f2) #[] k2,.func (.func f3) #[] k3] [spanP 97 122,spanP 65 90,spanP 48 57] w.heap.size _ 3 3 _ _ ?_ ?_ rfl (by simp) ?_).mono ?_)
 ·simp [go_sem]
 ·simp [go_sem];try omega
 ·exact TellAll.three (h1.grows (by repeat' first | exact Grows.refl _ | refine Grows.more ?_ _ | refine Grows.alloc ?_ _ | refine Grows.drew ?_)) (h2.grows (by repeat' first | exact Grows.refl _ | refine Grows.more ?_ _ | refine Grows.alloc ?_ _ | refine Grows.drew ?_)) (h3.grows (by repeat' first | exact Grows.refl _ | refine Grows.more ?_ _ | refine Grows.alloc ?_ _ | refine Grows.drew ?_))
 rintro e w1 ⟨v4,rfl,h4,m4,rfl⟩
 obtain ⟨f4,k4,rfl⟩:=h4.form
 go_wp2_with fail
 (with_reducible refine (span_any 33 126 _).mono ?_)
 rintro e w1 ⟨v5,rfl,h5,m5,rfl⟩
 obtain ⟨f5,k5,rfl⟩:=h5.form
 have h5:=h5.mono (show w.heap.size≤_ by simp [go_sem];try omega)
 go_wp2_with fail
 have hsz:∀ x y:Obj,((((more (more ((more (more (more w m1) m2) m3).alloc (.cells #[.func (.func f1) #[] k1,.func (.func f2) #[] k2,.func (.func f3) #[] k3] 160)) m4) m5).alloc x).alloc y)).heap.size=w.heap.size+m1.bs.size+m2.bs.size+m3.bs.size+1+m4.bs.size+m5.bs.size+1+1:=fun x y=>by simp [go_sem]
 obtain ⟨X,hX⟩:∃ X,X=((more (more ((more (more (more w m1) m2) m3).alloc (.cells #[.func (.func f1) #[] k1,.func (.func f2) #[] k2,.func (.func f3) #[] k3] 160)) m4) m5).alloc (.cells #[.func (.func f4) #[] k4] 160)).alloc (.cells #[.func (.func f5) #[] k5] 160):=⟨_,rfl⟩
 have h1:Tells w.heap.size X (.func (.func f1) #[] k1) (spanP 97 122):=by rw [hX];exact h1.grows (by repeat' first | exact Grows.refl _ | refine Grows.more ?_ _ | refine Grows.alloc ?_ _ | refine Grows.drew ?_)
 have h2:Tells w.heap.size X (.func (.func f2) #[] k2) (spanP 65 90):=by rw [hX];exact h2.grows (by repeat' first | exact Grows.refl _ | refine Grows.more ?_ _ | refine Grows.alloc ?_ _ | refine Grows.drew ?_)
 have h3:Tells w.heap.size X (.func (.func f3) #[] k3) (spanP 48 57):=by rw [hX];exact h3.grows (by repeat' first | exact Grows.refl _ | refine Grows.more ?_ _ | refine Grows.alloc ?_ _ | refine Grows.drew ?_)
 have t4:Tells w.heap.size X (.func (.func f4) #[] k4) (someP [spanP 97 122,spanP 65 90,spanP 48 57]):=by rw [hX];exact h4.grows (by repeat' first | exact Grows.refl _ | refine Grows.more ?_ _ | refine Grows.alloc ?_ _ | refine Grows.drew ?_)
 have t5:Tells w.heap.size X (.func (.func f5) #[] k5) (spanP 33 126):=by rw [hX];exact h5.grows (by repeat' first | exact Grows.refl _ | refine Grows.more ?_ _ | refine Grows.alloc ?_ _ | refine Grows.drew ?_)
 have c4:X.cell? ⟨w.heap.size+m1.bs.size+m2.bs.size+m3.bs.size+1+m4.bs.size+m5.bs.size,0,none⟩=some (.func (.func f4) #[] k4):=by rw [hX];simp [go_sem]
 have c5:X.cell? ⟨w.heap.size+m1.bs.size+m2.bs.size+m3.bs.size+1+m4.bs.size+m5.bs.size+1,0,none⟩=some (.func (.func f5) #[] k5):=by rw [hX];simp [go_sem]
 have hgX:Grows w X:=by rw [hX];exact (by repeat' first | exact Grows.refl _ | refine Grows.more ?_ _ | refine Grows.alloc ?_ _ | refine Grows.drew ?_)
 have hlo:=hgX.below.size
 have i4:w.heap.size≤w.heap.size+m1.bs.size+m2.bs.size+m3.bs.size+1+m4.bs.size+m5.bs.size∧Tells w.heap.size X (.func (.func f4) #[] k4) (someP [spanP 97 122,spanP 65 90,spanP 48 57]):=⟨by omega,t4⟩
 have i5:w.heap.size≤w.heap.size+m1.bs.size+m2.bs.size+m3.bs.size+1+m4.bs.size+m5.bs.size+1∧Tells w.heap.size X (.func (.func f5) #[] k5) (spanP 33 126):=⟨by omega,t5⟩
 rw [← hX]
 clear hX hsz
 refine region_from (NJ w.heap.size X) (by kernel_rfl) (by kernel_rfl) (fun a0 done a w' hJ=>hJ.size) ?start ?step ?fin
 case start =>
  exact ⟨by simp,by simp,fun t _ _=>rfl,rfl,hlo,(Grows.refl X).drew,(Grows.refl X).drew.ext _,fun i d _ h=>(by rw [none_done] at h;cases h),fun h=>(by rw [none_done] at h;cases h),fun _ c _=>none_done _ _,fun _=>⟨none_done _ _,none_done _ _⟩,fun h=>(by rw [none_done] at h;cases h),fun h=>(by rw [none_done] at h;cases h)⟩
 case step =>
  intro done a w' i hJ hr
  have hi:i < 43:=by
   obtain ⟨_,o,ho,_⟩:=mem_ready.1 hr
   have:=(Array.getElem?_eq_some_iff.1 ho).1
   simpa using this
  match i,hi,hr with
  | 0,_,hr =>
   exact hJ.make hr rfl rfl rfl rfl
  | 1,_,hr =>
   exact hJ.move hr 1 16 1 (spanP 97 122) rfl rfl rfl rfl (by decide) rfl rfl (by decide) h1
  | 2,_,hr =>
   exact hJ.ins hr 2 ⟨#[108,111,119,101,114]⟩ 1 16 _ rfl rfl rfl rfl (by decide) rfl rfl (by kernel_rfl) (by kernel_rfl) (by kernel_rfl)
  | 3,_,hr =>
   exact hJ.move hr 3 17 2 (spanP 65 90) rfl rfl rfl rfl (by decide) rfl rfl (by decide) h2
  | 4,_,hr =>
   exact hJ.ins hr 4 ⟨#[117,112,112,101,114]⟩ 3 17 _ rfl rfl rfl rfl (by decide) rfl rfl (by kernel_rfl) (by kernel_rfl) (by kernel_rfl)
  | 5,_,hr =>
   exact hJ.move hr 5 18 3 (spanP 48 57) rfl rfl rfl rfl (by decide) rfl rfl (by decide) h3
  | 6,_,hr =>
   exact hJ.ins hr 6 ⟨#[100,105,103,105,116]⟩ 5 18 _ rfl rfl rfl rfl (by decide) rfl rfl (by kernel_rfl) (by kernel_rfl) (by kernel_rfl)
  | 7,_,hr =>
   exact hJ.load hr 7 19 4 (someP [(spanP 97 122),(spanP 65 90),(spanP 48 57)]) rfl rfl rfl rfl (by decide) rfl rfl (by decide) rfl c4 i4
  | 8,_,hr =>
   exact hJ.ins hr 8 ⟨#[97,108,110,117,109]⟩ 7 19 _ rfl rfl rfl rfl (by decide) rfl rfl (by kernel_rfl) (by kernel_rfl) (by kernel_rfl)
  | 9,_,hr =>
   exact hJ.load hr 9 20 5 (spanP 33 126) rfl rfl rfl rfl (by decide) rfl rfl (by decide) rfl c5 i5
  | 10,_,hr =>
   exact hJ.ins hr 10 ⟨#[103,114,97,112,104]⟩ 9 20 _ rfl rfl rfl rfl (by decide) rfl rfl (by kernel_rfl) (by kernel_rfl) (by kernel_rfl)
  | 11,_,hr =>
   exact hJ.move hr 11 21 1 (spanP 97 122) rfl rfl rfl rfl (by decide) rfl rfl (by decide) h1
  | 12,_,hr =>
   exact hJ.move hr 12 22 2 (spanP 65 90) rfl rfl rfl rfl (by decide) rfl rfl (by decide) h2
  | 13,_,hr =>
   exact hJ.row2 hr 13 23 11 21 (spanP 97 122) 12 22 (spanP 65 90) rfl rfl rfl rfl (by decide) rfl rfl rfl (by kernel_rfl) rfl rfl (by kernel_rfl)
  | 14,_,hr =>
   exact hJ.call_ hr 14 24 13 23 _ rfl rfl rfl rfl (by decide) rfl rfl (by kernel_rfl)
  | 15,_,hr =>
   exact hJ.ins hr 15 ⟨#[97,108,112,104,97]⟩ 14 24 _ rfl rfl rfl rfl (by decide) rfl rfl (by kernel_rfl) (by kernel_rfl) (by kernel_rfl)
  | 16,_,hr =>
   exact hJ.move hr 16 25 3 (spanP 48 57) rfl rfl rfl rfl (by decide) rfl rfl (by decide) h3
  | 17,_,hr =>
   exact hJ.span hr 17 26 97 102 rfl rfl rfl rfl (by decide) rfl
  | 18,_,hr =>
   exact hJ.span hr 18 27 65 70 rfl rfl rfl rfl (by decide) rfl
  | 19,_,hr =>
   exact hJ.row3 hr 19 28 16 25 (spanP 48 57) 17 26 (spanP 97 102) 18 27 (spanP 65 70) rfl rfl rfl rfl (by decide) rfl rfl rfl (by kernel_rfl) rfl rfl (by kernel_rfl) rfl rfl (by kernel_rfl)
  | 20,_,hr =>
   exact hJ.call_ hr 20 29 19 28 _ rfl rfl rfl rfl (by decide) rfl rfl (by kernel_rfl)
  | 21,_,hr =>
   exact hJ.ins hr 21 ⟨#[120,100,105,103,105,116]⟩ 20 29 _ rfl rfl rfl rfl (by decide) rfl rfl (by kernel_rfl) (by kernel_rfl) (by kernel_rfl)
  | 22,_,hr =>
   exact hJ.span hr 22 30 9 13 rfl rfl rfl rfl (by decide) rfl
  | 23,_,hr =>
   exact hJ.span hr 23 31 32 32 rfl rfl rfl rfl (by decide) rfl
  | 24,_,hr =>
   exact hJ.row2 hr 24 32 22 30 (spanP 9 13) 23 31 (spanP 32 32) rfl rfl rfl rfl (by decide) rfl rfl rfl (by kernel_rfl) rfl rfl (by kernel_rfl)
  | 25,_,hr =>
   exact hJ.call_ hr 25 33 24 32 _ rfl rfl rfl rfl (by decide) rfl rfl (by kernel_rfl)
  | 26,_,hr =>
   exact hJ.ins hr 26 ⟨#[115,112,97,99,101]⟩ 25 33 _ rfl rfl rfl rfl (by decide) rfl rfl (by kernel_rfl) (by kernel_rfl) (by kernel_rfl)
  | 27,_,hr =>
   exact hJ.span hr 27 34 9 9 rfl rfl rfl rfl (by decide) rfl
  | 28,_,hr =>
   exact hJ.span hr 28 35 32 32 rfl rfl rfl rfl (by decide) rfl
  | 29,_,hr =>
   exact hJ.row2 hr 29 36 27 34 (spanP 9 9) 28 35 (spanP 32 32) rfl rfl rfl rfl (by decide) rfl rfl rfl (by kernel_rfl) rfl rfl (by kernel_rfl)
  | 30,_,hr =>
   exact hJ.call_ hr 30 37 29 36 _ rfl rfl rfl rfl (by decide) rfl rfl (by kernel_rfl)
  | 31,_,hr =>
   exact hJ.ins hr 31 ⟨#[98,108,97,110,107]⟩ 30 37 _ rfl rfl rfl rfl (by decide) rfl rfl (by kernel_rfl) (by kernel_rfl) (by kernel_rfl)
  | 32,_,hr =>
   exact hJ.span hr 32 38 0 31 rfl rfl rfl rfl (by decide) rfl
  | 33,_,hr =>
   exact hJ.span hr 33 39 127 127 rfl rfl rfl rfl (by decide) rfl
  | 34,_,hr =>
   exact hJ.row2 hr 34 40 32 38 (spanP 0 31) 33 39 (spanP 127 127) rfl rfl rfl rfl (by decide) rfl rfl rfl (by kernel_rfl) rfl rfl (by kernel_rfl)
  | 35,_,hr =>
   exact hJ.call_ hr 35 41 34 40 _ rfl rfl rfl rfl (by decide) rfl rfl (by kernel_rfl)
  | 36,_,hr =>
   exact hJ.ins hr 36 ⟨#[99,110,116,114,108]⟩ 35 41 _ rfl rfl rfl rfl (by decide) rfl rfl (by kernel_rfl) (by kernel_rfl) (by kernel_rfl)
  | 37,_,hr =>
   exact hJ.span hr 37 42 32 126 rfl rfl rfl rfl (by decide) rfl
  | 38,_,hr =>
   exact hJ.ins hr 38 ⟨#[112,114,105,110,116]⟩ 37 42 _ rfl rfl rfl rfl (by decide) rfl rfl (by kernel_rfl) (by kernel_rfl) (by kernel_rfl)
  | 39,_,hr =>
   exact hJ.fn hr rfl rfl rfl rfl rfl rfl rfl c4 c5 i4 i5
  | 40,_,hr =>
   exact hJ.ins hr 40 ⟨#[112,117,110,99,116]⟩ 39 43 _ rfl rfl rfl rfl (by decide) rfl rfl (by kernel_rfl) (by kernel_rfl) (by kernel_rfl)
  | 41,_,hr =>
   exact hJ.last_ hr rfl rfl rfl rfl (by kernel_rfl)
  | 42,_,hr =>
   exact hJ.back_ hr rfl rfl rfl rfl (by kernel_rfl) (by kernel_rfl)
  | n+43,h,_=>exact absurd h (by omega)
 case fin =>
  intro done a w' hJ hall
  obtain ⟨r,es,clk,e1,e2,e3,hk,hm⟩:=hJ.map (hall 0 (by simp))
  have hb:=hJ.back (hall 42 (by simp))
  rw [e1] at hb
  have hmap:IsMap w.heap.size w' r:=⟨es,clk,e3,hk,fun k=>by
   have:=hm k
   cases hc:clsOf k with
   | none=>rw [hc] at this;exact this
   | some x =>
    obtain ⟨i,p⟩:=x
    rw [hc] at this
    obtain ⟨c,hc1,_,hc3⟩:=cls_key hc
    have hlt:∀ c ∈ clsL,c.2.1 < 43:=by decide
    have h9:=hall i (by have:=hlt c hc1;rw [hc3] at this;simpa using this)
    simp only [h9,if_true] at this
    exact this⟩
  have hg9:=hgX.trans hJ.grows
  have hdf:=hJ.defers
  have htm:=hJ.tmps
  clear hJ hall hm
  go_wp2_with fail
  have hb2:a.tmps[0]?.getD undef=.map (some r):=by simpa [Act.eval] using hb
  exact bodyPost_ret (v:=.map (some r)) (by simp [results,Tryz.results101,go_sem,hb2]) hdf ⟨r,rfl,hmap,hg9⟩
end Go.Proofs.YtnjagecmhdagkaaGreatDoor
namespace Go.Proofs.YtnjagecmhdagkaaGreatDoor
open Go.RowKit
section
variable {P:Program} {ops:Array Oper} {md:Region.Mode} {C:World→Prop} {n:Nat} {L:Array Bool→Act→Prop}
def headQ (P:Program) (md:Region.Mode) (ops:Array Oper) (C:World→Prop) (n:Nat) (L:Array Bool→Act→Prop):Nat→Array Bool→Act→Prop
 | 0,done,a=>L done a
 | f+1,done,a=>Region.ready md ops done≠[]∧∀ i ∈ Region.ready md ops done,i < n∧qOp P ops C i (headQ P md ops C n L f (done.setIfInBounds i true)) a
theorem headQ_any {g:Nat} {Q:Exit→Act→World→Prop} (hL:∀ done a w,C w→L done a→wpAny P md ops Q g done a w) (f:Nat) :
  ∀ (done:Array Bool) (a:Act) (w:World),C w→headQ P md ops C n L f done a→wpAny P md ops Q (f+g) done a w:=by
 induction f with
 | zero=>intro done a w hw h;rw [Nat.zero_add];exact hL _ _ _ hw h
 | succ f ih =>
  intro done a w hw h
  rw [Nat.add_right_comm]
  exact ⟨fun e=>absurd e h.1,fun i hi=>wpOp_of_qOp hw (fun a' w' hw' h'=>ih _ a' w' hw' h') (h.2 i hi).2⟩
theorem headQ_first {i:Nat} {oi:Oper} {v:Value} (hi:ops[i]?=some oi) (hsel:∀ (j:Nat) (o:Oper) cs b,ops[j]?=some o→o.op≠.select cs b)
  (hs:Region.sinkB md ops n=true) (hc:Region.chainB md ops n=true) (hn:n < ops.size) (hin:i < n) (hdone:∀ done a,L done a→∀ j ∈ Region.ready md ops done,n≤j) (f:Nat) :
  ∀ (done:Array Bool) (a:Act),HeadInv md ops n done →
   (∀ j oj,ops[j]?=some oj→j≠i→done.getD j true=false→(∀ e ∈ oj.after,Region.binds md e=true→e.on≠i)→oi.apart ops oj=true) →
   i ∈ Region.ready md ops done→YieldsIn P ops C oi v a→headQ P md ops C n L f (done.setIfInBounds i true) (a.put oi.dst v)→headQ P md ops C n L (f+1) done a:=by
 induction f with
 | zero =>
  intro done a inv _ hr hy H
  refine ⟨fun e=>(by rw [e] at hr;cases hr),fun j hj=>?_⟩
  have hjn:j < n:=Nat.lt_of_not_le fun h=>tail_waits hs hc hn inv _ i rfl hin (mem_ready.1 hr).1 j h hj
  by_cases e:j=i
  ·subst e;exact ⟨hjn,hy.qOp hi H⟩
  ·exact absurd (hdone _ _ H j (ready_mono hj e)) (by omega)
 | succ f ih =>
  intro done a inv hfree hr hy H
  have hun:=(mem_ready.1 hr).1
  refine ⟨fun e=>(by rw [e] at hr;cases hr),fun j hj=>?_⟩
  have hjn:j < n:=Nat.lt_of_not_le fun h=>tail_waits hs hc hn inv _ i rfl hin hun j h hj
  by_cases e:j=i
  ·subst e;exact ⟨hjn,hy.qOp hi H⟩
  ·refine ⟨hjn,?_⟩
   obtain ⟨hjun,oj,hoj,hall⟩:=mem_ready.1 hj
   have hnot:∀ d ∈ oj.after,Region.binds md d=true→d.on≠i:=fun d hd hb he=>by
    have h1:=hall d hd hb
    rw [he,getD_both hun] at h1
    cases h1
   have h2:=qOp_put hoj (hfree j oj hoj e hjun hnot) (fun cs b=>hsel i oi cs b hi) (fun cs b=>hsel j oj cs b hoj) hy (H.2 j (ready_mono hj e)).2
   refine qOp_mono (fun a' h3=>ih (done.setIfInBounds j true) a' (inv.set hj hjn) (fun k ok hk hki hu hno=>?_) (ready_mono hr (Ne.symm e)) h3.1 ?_) h2
   ·refine hfree k ok hk hki ?_ hno
    by_cases hjk:j=k
    ·subst hjk;exact hjun
    ·rwa [getD_set_ne true hjk] at hu
   ·rw [Array.setIfInBounds_comm _ _ e]
    exact h3.2
theorem headQ_lex {g:Nat} {Lq:Act→Prop} (hsel:Region.noSelect ops=true) (hs:Region.sinkB md ops n=true) (hc:Region.chainB md ops n=true) (hn:n < ops.size) (l:List Oper) :
  ∀ (k:Nat) (done:Array Bool) (a:Act),(∀ j,j < l.length→l[j]?=ops[k+j]?)→k+l.length=n→HeadInv md ops n done →
   Region.lexHead md ops g l.length k done=true→wpQuiet P ops C Lq l a→headQ P md ops C n (fun d' a'=>Region.seqB md ops g n d'=true∧Lq a') l.length done a:=by
 induction l with
 | nil =>
  intro k done a _ hk _ hB h
  obtain rfl:k=n:=by simpa using hk
  exact ⟨by simpa [Region.lexHead] using hB,h⟩
 | cons o l ih =>
  intro k done a hl hk inv hB h
  have h0:ops[k]?=some o:=by simpa using (hl 0 (by simp)).symm
  simp only [List.length_cons,Region.lexHead,Bool.and_eq_true] at hB hk
  have hkn:k < n:=by omega
  have hr:k ∈ Region.ready md ops done:=by simpa using hB.1.1
  have hq:qOp P ops C k (wpQuiet P ops C Lq l) a:=by unfold qOp;simp only [h0];exact h
  obtain ⟨v,hy,hK⟩:=yieldsIn_of_qOp h0 hq
  refine headQ_first h0 (Region.noSelect_spec hsel) hs hc hn hkn (fun _ _ hL=>seqB_ready hL.1) l.length done a inv (Region.free_spec h0 hB.1.2) hr hy ?_
  refine ih (k+1) _ _ (fun j hj=>?_) (by omega) (inv.set hr hkn) hB.2 hK
  have:=hl (j+1) (by simp;omega)
  rw [List.getElem?_cons_succ] at this
  rw [this]
  congr 1
  omega
end
theorem region_tail {P:Program} {id:Nat} {Q:Exit→Act→World→Prop} {a:Act} {w:World} {l:List Oper} (n:Nat) (hm:P.follows .mixedOrders=true) (hB:Region.lexTailB .any l.toArray n=true)
  (h:wpQuiet P l.toArray (fun w'=>∃ m,w'=more w m) (fun a'=>∀ w',(∃ m,w'=more w m)→wpList P l.toArray Q (l.drop n) a' w') (l.take n) a):(Code.region id l.toArray true).wp P Q a w:=by
 simp only [Region.lexTailB,Bool.and_eq_true,decide_eq_true_eq] at hB
 obtain ⟨⟨⟨⟨hsel,hn⟩,hs⟩,hc⟩,hlex⟩:=hB
 have hn':n < l.length:=by simpa using hn
 have ht:(l.take n).length=n:=by simp;omega
 have hd:(l.drop n).length=l.toArray.size - n:=by simp
 have H:=headQ_lex (md:=.any) (g:=l.toArray.size - n) hsel hs hc hn (l.take n) 0 (Array.replicate l.toArray.size false) a
  (fun j hj=>by
   rw [ht] at hj
   simp [hj])
  (by simpa using ht)
  ⟨by simp,fun j oj _ hl=>(by rw [getD_replicate_false] at hl;cases hl),fun t _ ht=>getD_in (by simpa using ht) (getD_replicate_false _ _)⟩ (by rw [ht];exact hlex) h
 refine wp_region_any hm ?_
 have H2:=headQ_any (Q:=Q) (g:=l.toArray.size - n) (fun done a' w' hw' hL=>by
  have:=wpAny_of_seq (md:=.any) (Q':=Q) (l.drop n) n done a' w' (fun j=>by simp [List.getElem?_drop]) (by rw [hd];exact hL.1) (hL.2 w' hw')
  rwa [hd] at this) _ _ _ { w with drawn:=w.drawn+1 } ⟨⟨#[],w.drawn+1⟩,by simp [more]⟩ H
 rw [ht,show n+(l.toArray.size - n)=l.toArray.size by omega] at H2
 exact H2
end Go.Proofs.YtnjagecmhdagkaaGreatDoor
namespace Go.Proofs.YtnjagecmhdagkaaGreatDoor
open Go.RowKit Go.MapKept
def SA (p:Nat→Bool):Array Value:=((List.range 256).map fun c=>Value.bool (p c)).toArray
@[simp,go_sem] theorem size_SA (p:Nat→Bool):(SA p).size=256:=by simp [SA]
@[go_sem] theorem oneCells_SA (p:Nat→Bool):OneCells (SA p):=by simp [OneCells,SA,Value.oneCell']
theorem get_SA (p:Nat→Bool) (i:Nat) (h:i < 256):(SA p)[i]?=some (.bool (p i)):=by simp [SA,h]
theorem SA_ext {p q:Nat→Bool} (h:∀ c,c < 256→p c=q c):SA p=SA q:=by
 unfold SA
 congr 1
 exact List.map_congr_left fun c hc=>by rw [h c (by simpa using hc)]
theorem set_SA (p:Nat→Bool) (i:Nat) (b:Bool):(SA p).setIfInBounds i (.bool b)=SA fun c=>if c=i then b else p c:=by
 apply Array.ext_getElem?
 intro j
 rw [Array.getElem?_setIfInBounds]
 by_cases hj:j < 256
 ·rw [get_SA _ _ hj,get_SA _ _ hj]
  by_cases h:i=j
  ·subst h;simp [hj]
  ·simp [h,Ne.symm h]
 ·rw [Array.getElem?_eq_none (by simp;omega),Array.getElem?_eq_none (by simp;omega)]
  by_cases h:i=j
  ·subst h;simp [hj]
  ·simp [h]
theorem zero22 (w:World):(zeroValue 89).run Tryz.prog w=.ok (.agg (SA fun _=>false)) w:=by kernel_rfl
attribute [local go_sem ↓] zero22
theorem byte_conv (k:Nat) (h:k < 256):IntKind.u8.wrap (k:Int)=k:=by
 simp [IntKind.wrap,IntKind.bits,IntKind.signed];omega
theorem Turned.ext {w w':World} {s lo:Nat} {c:Array Value} (h:Turned w s c w') (hs:s < lo):Ext lo w w':=by
 obtain ⟨m,rfl⟩:=h
 intro b cs t f hb hc
 rw [heap_more _ _ _ (by have:=(Array.getElem?_eq_some_iff.1 hc).1;simpa using this)]
 unfold setBlk
 rw [setRow_other w s b c (by omega)]
 exact hc
theorem tells_quiet {lo:Nat} {w wr:World} {m:More} {f:FuncId} {caps:Array Value} {x:Int→Bool} {k:Int} (h:∀ w' c,Ext lo w w'→0≤c→c≤255→Calls Tryz.prog f (#[.int .u8 c]++caps) w' fun e w''=>e=.returned (.bool (x c))∧w'=w'') (hx:Ext lo w wr) (h0:0≤k) (h1:k≤255) :
  Calls Tryz.prog f (#[.int .u8 k]++caps) (more wr m) fun e w''=>e=.returned (.bool (x k))∧∃ j,w''=more wr j :=
 (h _ k (hx.trans ((Grows.of wr m).ext lo)) h0 h1).mono fun e w'' ⟨he,hw⟩=>⟨he,m,hw.symm⟩
set_option maxRecDepth 100000 in
set_option maxHeartbeats 2000000 in
theorem add_any (s lo:Nat) (p:Nat→Bool) (v:Value) (x:Int→Bool) (w:World) (hb:blk w s=SA p) (hs:s < lo) (hv:Tells lo w v x) :
  Calls Tryz.prog 88 #[.pointer (some ⟨s,0,none⟩),v] w fun e w'=>e=.returned (.tuple #[])∧Turned w s (SA fun c=>p c || x c) w':=by
 obtain ⟨f,caps,rfl,hen,hcall⟩:=hv
 have HC:=Lib.hid hcall
 clear hcall
 go_enter Tryz.func88,Tryz.ntmps88
 go_wp2_with fail
 go_loopg [4,5] 256 (fun q _ i wr=>∃ k:Nat,q+k=256∧i=.int .i64 k∧Turned w s (SA fun c=>if c < k then p c || x c else p c) wr)
 case atStart=>exact ⟨0,by omega,rfl,Turned.refl (by rw [hb];exact SA_ext fun c _=>by simp) (by simp)⟩
 case round =>
  obtain ⟨k,hq,rfl,hT⟩:=hrel
  have HQ:=Lib.hid hq
  have HT:=Lib.hid hT
  have hkl:k≤256:=by omega
  clear hq
  by_cases h1:k < 256
  ·have hbk:blk wr s=SA fun c=>if c < k then p c || x c else p c:=hT.blk hb (by simp)
   have ec:=Blk.cell hbk (by simp) k
   rw [get_SA _ _ h1] at ec
   simp only [Nat.lt_irrefl,if_false] at ec
   have hf:=Blk.free hbk (by simp) k
   have hi:=Blk.inHeap hbk (by simp)
   have hwr:=byte_conv k h1
   have HST:=fun b=>Lib.hid (Blk.set hbk (by simp) k (.bool b))
   clear hT
   have hx:=HT.out.ext hs
   have HX:=Lib.hid hx
   have hen':∀ (args:Array Value) (w:World),(callFunc f args).run Tryz.prog w=.ok (.enter f args) w:=hen
   clear hx
   have HS:∀ b,(p k || x k)=b→Hid (∀ m,Turned w s (SA fun c=>if c < k+1 then p c || x c else p c) (more (wr.setCell ⟨s,k,none⟩ (.bool b)) m)):=fun b hb2=>Lib.hid fun m=>by
    rw [(HST b).out,set_SA]
    obtain ⟨m0,rfl⟩:=HT.out
    have hi0:InHeap s w:=Blk.inHeap hb (by simp)
    rw [setBlk_more _ _ _ _ ((inHeap_setBlk s).2 hi0),Blk.set_set]
    refine Turned.more ?_ m
    have e:(SA fun c=>if c=k then b else if c < k then p c || x c else p c)=SA fun c=>if c < k+1 then p c || x c else p c:=SA_ext fun c _=>by
     by_cases h:c=k
     ·subst h;simp [hb2]
     ·by_cases h2:c < k
      ·rw [if_neg h,if_pos h2,if_pos (by omega)]
      ·rw [if_neg h,if_neg h2,if_neg (by omega)]
    rw [e]
    exact Turned.mk _ _ _ m0
   clear HST
   cases hpk:p k with
   | true =>
    rw [hpk] at ec
    have HS2:=HS true (by rw [hpk];rfl)
    clear HS hpk
    go_upto_region 3 with fail
    refine region_tail 15 (by kernel_rfl) (by kernel_rfl) ?_
    simp only [List.take_succ_cons,List.take_zero,List.drop_succ_cons,List.drop_zero]
    repeat (go_big_quiet_step (fail))
    refine wpQuiet_nil ?_
    intro _ hw'
    obtain ⟨m,rfl⟩:=hw'
    go_wp2_with fail
    go_roundg (gk - 1)
    case measure=>have:=HQ.out;omega
    case rel=>exact ⟨k+1,by have:=HQ.out;omega,by go_num,HS2.out m⟩
   | false =>
    rw [hpk] at ec
    have HS2:=HS (x k) (by rw [hpk];rfl)
    clear HS hpk
    go_upto_region 3 with fail
    refine region_tail 15 (by kernel_rfl) (by kernel_rfl) ?_
    simp only [List.take_succ_cons,List.take_zero,List.drop_succ_cons,List.drop_zero]
    repeat (go_big_quiet_step (first | exact tells_quiet HC.out HX.out (by omega) (by omega)))
    refine wpQuiet_nil ?_
    intro _ hw'
    obtain ⟨m,rfl⟩:=hw'
    go_wp2_with fail
    go_roundg (gk - 1)
    case measure=>have:=HQ.out;omega
    case rel=>exact ⟨k+1,by have:=HQ.out;omega,by go_num,HS2.out m⟩
  ·have e:(SA fun c=>if c < k then p c || x c else p c)=SA fun c=>p c || x c:=SA_ext fun c hc=>by rw [if_pos (by omega)]
   have HE:=Lib.hid e
   clear e
   go_wp2_with fail
   go_end0
   exact ⟨rfl,by rw [← HE.out];exact HT.out⟩
end Go.Proofs.YtnjagecmhdagkaaGreatDoor
namespace Go.Proofs.YtnjagecmhdagkaaGreatDoor
open Go.RowKit Go.MapKept
attribute [local go_sem ↓] zero22
def classP (k:ByteArray):Nat→Bool:=fun c=>match clsOf k with
 | some (_,p)=>p c
 | none=>false
theorem zeroIs (w:World):(zeroValue 160).run Tryz.prog w=.ok .nilFunc w:=by kernel_rfl
theorem look_cls {lo:Nat} {w:World} {r:Nat} (h:IsMap lo w r) (k:ByteArray):∃ v,(∀ n,(Instr.lookup 179 (.map (some r)) (.string k) true).run Tryz.prog (w.drewN n)=.ok (.tuple #[v,.bool (clsOf k).isSome]) (w.drewN n)) ∧
  (Instr.lookup 179 (.map (some r)) (.string k) true).run Tryz.prog w=.ok (.tuple #[v,.bool (clsOf k).isSome]) w∧(∀ i p,clsOf k=some (i,p)→Tells lo w v p)∧(clsOf k=none→v=.nilFunc):=by
 obtain ⟨es,clk,h1,h2,h3⟩:=h
 have h4:=h3 k
 have hr:∀ w',w'.heap[r]?=w.heap[r]?→(Instr.lookup 179 (.map (some r)) (.string k) true).run Tryz.prog w'=.ok (.tuple #[(look es.toList k).getD .nilFunc,.bool (look es.toList k).isSome]) w':=fun w' hw =>
  run_lookup_str Tryz.underlying179 Tryz.underlying9 k .nilFunc zeroIs (hw.trans h1) h2
 cases hc:clsOf k with
 | none =>
  rw [hc] at h4
  simp only [] at h4
  rw [h4] at hr
  exact ⟨.nilFunc,(fun n=>hr _ rfl),hr _ rfl,(fun i p h=>by cases h),(fun _=>rfl)⟩
 | some x =>
  obtain ⟨i,p⟩:=x
  rw [hc] at h4
  obtain ⟨v,hv,ht⟩:=h4
  rw [hv] at hr
  exact ⟨v,(fun n=>hr _ rfl),hr _ rfl,(fun i' p' h=>by injection h with h;injection h with _ h;subst h;exact ht),(fun h=>by cases h)⟩
end Go.Proofs.YtnjagecmhdagkaaGreatDoor
