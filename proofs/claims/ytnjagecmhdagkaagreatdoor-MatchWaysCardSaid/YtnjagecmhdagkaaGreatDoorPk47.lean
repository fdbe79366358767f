/-
 Several texts of the proof: MatDp, MatDn.
-/
import Derived.Test.YtnjagecmhdagkaaGreatDoorPk44
import Derived.Test.YtnjagecmhdagkaaGreatDoorPk46
set_option linter.unusedSimpArgs false
set_option linter.unusedVariables false
set_option maxRecDepth 3000
/-
  Matches, the document's way by all ways: a state in a list is written over.
-/
namespace Go.Proofs.YtnjagecmhdagkaaGreatDoor
open Go.RowKit
section
variable {ok:Nat→Prop} {w w':World} {b o n cap:Nat} {a c:List St} {t t':St} {A':Option Addr} {cp':Nat}
theorem SsAt.put (h:SsAt ok w (.slice (some ⟨b,o,none⟩) n cap) (a++t::c)) (hc:Chg (fun x=>x=b) w w')
  (hout:∀ j,(j < o+a.length*22∨o+a.length*22+22≤j)→w'.cell? ⟨b,j,none⟩=w.cell? ⟨b,j,none⟩)
  (hin:∀ j u,(stC t'.1 t'.2.1 (.slice A' t'.2.2.len cp'))[j]?=some u→w'.cell? ⟨b,o+a.length*22+j,none⟩=some u)
  (hg:t'.2.1.length=20) (hw:WyAt (fun x=>ok x∧x≠b) w' A' cp' t'.2.2) :
  SsAt ok w' (.slice (some ⟨b,o,none⟩) n cap) (a++t'::c):=by
 obtain ⟨A,cap2,xs,e2,h1,h2⟩:=h
 injection e2 with e2 e3 e4
 subst e2
 subst e4
 have hlen:(a++t'::c).length=(a++t::c).length:=by simp
 have hpos:0 < (a++t::c).length:=by simp;omega
 obtain ⟨A,cp,ys,zs,k1,k2,k3,k4,k5,k6⟩:=h2.at
 obtain ⟨b',o',q1,q2,q3⟩:=h1.rd.2 hpos
 cases q1
 have hl:=h1.rd.1
 have hz:(stC t.1 t.2.1 (.slice A t.2.2.len cp)).toList.length=22:=by rw [Array.length_toList,stC_size k3]
 have hz':(stC t'.1 t'.2.1 (.slice A' t'.2.2.len cp')).toList.length=22:=by rw [Array.length_toList,stC_size hg]
 have hin2:∀ j u,(stC t'.1 t'.2.1 (.slice A' t'.2.2.len cp')).toList[j]?=some u→w'.cell? ⟨b,o+a.length*22+j,none⟩=some u:=fun j u hu=>hin j u (by rw [← Array.getElem?_toList];exact hu)
 obtain ⟨Z',hZ'⟩:∃ z,(stC t'.1 t'.2.1 (.slice A' t'.2.2.len cp')).toList=z:=⟨_,rfl⟩
 obtain ⟨Z,hZ⟩:∃ z,(stC t.1 t.2.1 (.slice A t.2.2.len cp)).toList=z:=⟨_,rfl⟩
 rw [hZ'] at hz' hin2
 rw [hZ] at hz k1
 rw [e3,← hlen]
 refine ⟨some ⟨b,o,none⟩,cap,ys++(Z'++zs),rfl,⟨⟨?_,fun _=>⟨b,o,rfl,Nat.lt_of_lt_of_le q2 hc.size,?_⟩⟩,(fun e=>by cases e),by rw [hlen];exact h1.le,h1.cap63,fun _ a2 e=>h1.ok hpos a2 e⟩,?_⟩
 ·rw [hlen,← hl,k1,List.length_append,List.length_append,List.length_append,List.length_append,hz,hz']
 ·intro j u hu
  by_cases hj:j < ys.length
  ·rw [List.getElem?_append_left hj] at hu
   rw [hout (o+j) (.inl (by omega))]
   exact q3 j u (by rw [k1,List.getElem?_append_left hj];exact hu)
  ·rw [List.getElem?_append_right (by omega)] at hu
   by_cases hj2:j - ys.length < 22
   ·rw [List.getElem?_append_left (by omega)] at hu
    have:=hin2 _ _ hu
    rwa [show o+a.length*22+(j - ys.length)=o+j by omega] at this
   ·rw [List.getElem?_append_right (by omega),hz'] at hu
    rw [hout (o+j) (.inr (by omega))]
    exact q3 j u (by rw [k1,List.getElem?_append_right (by omega),List.getElem?_append_right (by omega),hz];exact hu)
 ·exact StRow.app (m:=t'::c) ⟨A',cp',zs,by rw [hZ'],hg,hw.mono fun x _ hx=>⟨hx.1,fun a2 e=>by cases e;exact hx.2⟩,k6.chg hc fun x _ hx=>hx.2 _ rfl⟩ (k5.chg hc fun x _ hx=>hx.2 _ rfl)
theorem SsAt.putWy {k:Wy} {w2:World} (h:SsAt ok w (.slice (some ⟨b,o,none⟩) n cap) (a++t::c)) (hg:Grows w w2) (hw:WyAt (fun x=>ok x∧x≠b) w2 A' cp' k) :
  SsAt ok (w2.setCell ⟨b,o+a.length*22+21,none⟩ (.slice A' k.len cp')) (.slice (some ⟨b,o,none⟩) n cap) (a++(t.1,t.2.1,k)::c):=by
 have h2:=h.grows hg
 obtain ⟨A,cp,hN⟩:=h2.nth rfl
 have hC:Chg (fun x=>x=b) w2 (w2.setCell ⟨b,o+a.length*22+21,none⟩ (.slice A' k.len cp')):=chg_cell _ _ _ _
 refine h2.put hC (fun j hj=>World.cell?_setCell_other _ _ _ _ fun e=>by injection e with _ e;omega) (fun j u hu=>?_) hN.len (hw.chg hC fun x _ hx=>hx.2)
 have hj:j < 22:=by
  have:=(Array.getElem?_eq_some_iff.1 hu).1
  rwa [stC_size hN.len] at this
 by_cases h21:j=21
 ·subst h21
  rw [stC_21 hN.len] at hu
  injection hu with hu
  rw [← hu]
  exact World.cell?_setCell_same _ _ _ hN.c21
 ·rw [World.cell?_setCell_other _ _ _ _ fun e=>by injection e with _ e;omega]
  by_cases h0:j=0
  ·subst h0
   rw [stC_0] at hu
   rw [← hu]
   exact hN.c0
  ·obtain ⟨i,rfl⟩:∃ i,j=1+i:=⟨j - 1,by omega⟩
   rw [stC_sp hN.len (by omega)] at hu
   have:=hN.sp i u hu
   rwa [Nat.add_assoc _ 1 i] at this
theorem SsAt.putSp {N:Nat} {x y:Int} (h:SsAt ok w (.slice (some ⟨b,o,none⟩) n cap) (a++t::c)) (hN9:N < 10) :
  SsAt ok (w.setCells b (o+a.length*22+1+2*N) [.int .i64 x,.int .i64 y]) (.slice (some ⟨b,o,none⟩) n cap) (a++(t.1,spSet t.2.1 N x y,t.2.2)::c):=by
 obtain ⟨A,cp,hN⟩:=h.nth rfl
 have hC:Chg (fun z=>z=b) w (w.setCells b (o+a.length*22+1+2*N) [.int .i64 x,.int .i64 y]):=(chg_cell _ _ _ _).trans (chg_cell _ _ _ _)
 have hlen:(spSet t.2.1 N x y).length=20:=by rw [spSet_len];exact hN.len
 have hin:∀ k u,(stC t.1 t.2.1 (.slice A t.2.2.len cp))[k]?=some u→w.cell? ⟨b,o+a.length*22+k,none⟩=some u:=fun j u hu=>by
  have hj:j < 22:=by
   have:=(Array.getElem?_eq_some_iff.1 hu).1
   rwa [stC_size hN.len] at this
  by_cases h21:j=21
  ·subst h21
   rw [stC_21 hN.len] at hu
   rw [← hu]
   exact hN.c21
  ·by_cases h0:j=0
   ·subst h0
    rw [stC_0] at hu
    rw [← hu]
    exact hN.c0
   ·obtain ⟨i,rfl⟩:∃ i,j=1+i:=⟨j - 1,by omega⟩
    rw [stC_sp hN.len (by omega)] at hu
    have:=hN.sp i u hu
    rwa [Nat.add_assoc _ 1 i] at this
 have hsome:∀ k,k < 22→(w.cell? ⟨b,o+a.length*22+k,none⟩).isSome=true:=fun k hk=>by
  rw [hin k _ (Array.getElem?_eq_getElem (by rw [stC_size hN.len];exact hk))]
  rfl
 refine h.put (A':=A) (cp':=cp) hC (fun j hj=>World.cell?_setCells_out _ _ _ _ _ fun _ _=>by simp only [List.length_cons,List.length_nil];omega) (fun j u hu=>?_) hlen (hN.wy.chg hC fun x _ hx=>hx.2)
 have hj:j < 22:=by
  have:=(Array.getElem?_eq_some_iff.1 hu).1
  rwa [stC_size hlen] at this
 by_cases hjn:j=1+2*N∨j=1+(2*N+1)
 ·have hset:=World.cell?_setCells_in b [.int .i64 x,.int .i64 y] (o+a.length*22+1+2*N) w (fun k hk=>by
   simp only [List.length_cons,List.length_nil] at hk
   have:=hsome (1+2*N+k) (by omega)
   rwa [show o+a.length*22+(1+2*N+k)=o+a.length*22+1+2*N+k by omega] at this)
  rcases hjn with rfl | rfl
  ·rw [stC_sp hlen (by omega)] at hu
   have e:(spC (spSet t.2.1 N x y))[2*N]?=some (.int .i64 x):=by
    have:2*N < t.2.1.length:=by rw [hN.len];omega
    simp [spC,spSet,List.getElem?_set,this]
   rw [e] at hu
   have:=hset 0 (by simp)
   rw [show o+a.length*22+1+2*N+0=o+a.length*22+(1+2*N) by omega] at this
   rw [← hu]
   exact this
  ·rw [stC_sp hlen (by omega)] at hu
   have e:(spC (spSet t.2.1 N x y))[2*N+1]?=some (.int .i64 y):=by
    have:2*N+1 < t.2.1.length:=by rw [hN.len];omega
    simp [spC,spSet,List.getElem?_set,this]
   rw [e] at hu
   have:=hset 1 (by simp)
   rw [show o+a.length*22+1+2*N+1=o+a.length*22+(1+(2*N+1)) by omega] at this
   rw [← hu]
   exact this
 ·rw [World.cell?_setCells_out _ _ _ _ _ fun _ _=>by simp only [List.length_cons,List.length_nil];omega]
  refine hin j u ?_
  by_cases h21:j=21
  ·subst h21
   rw [stC_21 hlen] at hu
   rw [stC_21 hN.len]
   exact hu
  ·by_cases h0:j=0
   ·subst h0
    rw [stC_0] at hu ⊢
    exact hu
   ·obtain ⟨i,rfl⟩:∃ i,j=1+i:=⟨j - 1,by omega⟩
    rw [stC_sp hlen (by omega)] at hu
    rw [stC_sp hN.len (by omega),← hu]
    have h1:¬ 2*N=i:=by omega
    have h2:¬ 2*N+1=i:=by omega
    simp [spC,spSet,List.getElem?_set,h1,h2]
end
end Go.Proofs.YtnjagecmhdagkaaGreatDoor
namespace Go.Proofs.YtnjagecmhdagkaaGreatDoor
open Go.RowKit
attribute [local go_sem ↓] zeroNodeR ldNodeR_eq stNodeR_eq ldSp_eq stSp_eq zeroSp bldSt_eq bldSlSt_eq bldSlWyR_eq
attribute [local go_sem] loadNodeR loadNodeR_if storeNodeR storeNodeR_if ndA_one_slice loadSp loadSp_if storeSp storeSp_if spC_one bldSt_two bldSt_three bldSlSt_run bldSlWyR_run
section
variable {s:List UInt8} {most:Int} {sb B:Nat}
def grpD (N a:Nat) (t:St):St:=(t.1,spSet t.2.1 N a t.1,.cons (t.1 - a) t.2.2 .nil)
def timD (a:Nat) (t:St):St:=(t.1,t.2.1,.cons (t.1 - a) t.2.2 .nil)
theorem nodeD7 {x:NdV} {k:Fr} {a n:Nat} {g:Spn} (h:x.kind=7):nodeR10 s most x k a g n=((rowR10 s most k a g n).1.map (grpD x.n a),(rowR10 s most k a g n).2):=by
 unfold nodeR10
 rw [if_pos h]
 rfl
theorem nodeD8 {x:NdV} {k:Fr} {a n:Nat} {g:Spn} (h:x.kind=8):nodeR10 s most x k a g n=((turnR most x (fun a g n=>rowR10 s most k a g n) (unsetV k) (fuelK s.length x a 0) 0 a g n).1.map (timD a),(turnR most x (fun a g n=>rowR10 s most k a g n) (unsetV k) (fuelK s.length x a 0) 0 a g n).2):=by
 unfold nodeR10
 rw [if_neg (by omega),if_pos h]
 rfl
theorem nodeD1 {x:NdV} {k:Fr} {a n:Nat} {g:Spn} (h7:x.kind≠7) (h8:x.kind≠8):nodeR10 s most x k a g n=(oneL x s a g,n+1):=by
 unfold nodeR10 oneL
 rw [if_neg h7,if_neg h8]
 cases oneV x s a g <;> rfl
set_option maxRecDepth 100000 in
set_option maxHeartbeats 8000000 in
theorem node_anyD (hs:s.length≤60000) (hB:∀ n,ovN most n=false→n+1≤B) (hB9:B≤900000) {x:NdV} {k:Fr} (hx:NdOk x) (hk:AllNd k) (hk9:k.size≤1000) (hrow:RowD s most sb B k):NodeD s most sb B x k:=by
 intro A cap a n g w hA ha hg hsb hn
 have hgl:=hg.len
 have hsz:(spC g).size=20:=by rw [spC_size];exact hgl
 have isb:sb < w.heap.size:=Blk.inHeap hsb (by simp [daC])
 have hxn:=hx.n
 have hmn:=hx.mn
 have hmx:=hx.mx
 have hturn:=turns_anyD hs hB hB9 hx hk hk9 hrow (fuelK s.length x a 0) 0 a (Nat.le_refl _) (by unfold fuelK;split <;> omega) A cap n g
 have HA:=Lib.hid hA
 have HG:=Lib.hid hg
 have HB:=Lib.hid hB
 have HX:=Lib.hid hx
 have HK:=Lib.hid hk
 have HROW:=Lib.hid hrow
 have HTURN:=Lib.hid hturn
 clear hA hg hB hx hk hrow hturn
 go_enter Tryz.func52,Tryz.ntmps52
 go_upto_region 1 with fail
 have HT:=Lib.hid (TwoAt.start w (ndC x (.slice A k.len cap)) (spC g) 91 35)
 generalize (w.alloc (Obj.cells (ndC x (Value.slice A k.len cap)) 91)).alloc (Obj.cells (spC g) 35)=w1 at *
 have hz1:=HT.out.size
 obtain ⟨bX,hbX⟩:∃ z,z=w.heap.size:=⟨_,rfl⟩
 obtain ⟨bG,hbG⟩:∃ z,z=w.heap.size+1:=⟨_,rfl⟩
 rw [← hbG,← hbX]
 generalize Value.agg (ndC x (Value.slice A k.len cap))=V1
 have HX1:Hid (blk w1 bX=ndC x (.slice A k.len cap)):=Lib.hid (by rw [hbX];exact HT.out.fst)
 have HG1:Hid (blk w1 bG=spC g):=Lib.hid (by rw [hbG];exact HT.out.snd)
 have HSB1:=Lib.hid (blkG hsb (by simp [daC]) HT.out.grows)
 have HGR1:=Lib.hid HT.out.grows
 have HBB:Hid (w.heap.size≤bX∧w.heap.size≤bG∧bX < w1.heap.size∧bG < w1.heap.size):=Lib.hid (by omega)
 have nX:bX≠sb:=by omega
 have nG:bG≠sb:=by omega
 have e0:=(Blk.cell HX1.out (ndC_pos _ _) 0).trans (ndA_0 _ _ _ _ _ _ _)
 have e261:=(Blk.cell HX1.out (ndC_pos _ _) 261).trans (ndA_261 _ _ _ _ _ _ _)
 have ibX:InHeap bX w1:=Blk.inHeap HX1.out (ndC_pos _ _)
 have ibG:InHeap bG w1:=Blk.inHeap HG1.out (by omega)
 have q4:=loadSp_all w1 bG (spC g) HG1.out hsz
 clear HT hz1 hbX hbG hsb
 by_cases h7:x.kind=7
 ·have b7:((x.kind:Int) == 7)=true:=by simp;omega
  have hcall:=HROW.out A cap a n g w1 (HA.out.grows HGR1.out) ha HG.out HSB1.out hn
  have hin:=row_in (s:=s) (most:=most) k a g n HK.out ha HG.out
  have HE:=Lib.hid (nodeD7 (s:=s) (most:=most) (k:=k) (a:=a) (n:=n) (g:=g) h7)
  clear h7
  go_wp2_with fail
  (with_reducible refine hcall.mono ?_)
  rintro e9 w2 hpost
  clear hcall q4 e0 e261 ibX ibG
  obtain ⟨N,hN⟩:∃ z,rowR10 s most k a g n=z:=⟨_,rfl⟩
  rw [hN] at hpost hin HE
  obtain ⟨v,rfl,hS,hsb2,hc2,hfr⟩:=hpost
  obtain ⟨L1,hL1⟩:∃ z,N.1=z:=⟨_,rfl⟩
  obtain ⟨m0,hm0⟩:∃ z,N.2=z:=⟨_,rfl⟩
  rw [hL1] at hS hin HE
  rw [hm0] at hsb2 HE
  have HIN:=Lib.hid hin
  have HS:=Lib.hid hS
  have HSB2:=Lib.hid hsb2
  have HC2:=Lib.hid hc2
  obtain ⟨A1,cap1,xs1,rfl,hsl1,-⟩:=hS
  have HFR:=Lib.hid hfr
  have h63:=hsl1.cap63
  have hL9:L1.length≤cap1:=hsl1.le
  clear hin hN hL1 hm0 hsb2 hc2 hfr hsl1
  go_wp2_with fail
  go_loopg [10] L1.length (fun q v10 wr=>∃ (i:Nat) (a1 c1:List St),q+i=L1.length∧v10=.int .i64 i∧L1=a1++c1∧a1.length=i∧SsAt (fun b=>w1.heap.size≤b) wr (.slice A1 L1.length cap1) (a1.map (grpD x.n a)++c1)∧blk wr sb=daC s m0 most∧Chg (fun b=>b=sb) w1 wr∧Free wr (.slice A1 L1.length cap1))
  case atStart=>exact ⟨0,[],L1,by omega,rfl,rfl,rfl,HS.out,HSB2.out,HC2.out,HFR.out⟩
  case round =>
   obtain ⟨i,a1,c1,hq,rfl,hL,hai,hss,hsbr,hcr,hfr⟩:=hrel
   have HQ:=Lib.hid hq
   have HSS:=Lib.hid hss
   have HSBR:=Lib.hid hsbr
   have HCR:=Lib.hid hcr
   cases c1 with
   | nil =>
    have hiL:i=L1.length:=by rw [hL,List.append_nil];exact hai.symm
    have haL:a1=L1:=by rw [hL,List.append_nil]
    have HEQ:=Lib.hid haL
    clear hq hss hsbr hcr hL hai haL hfr
    subst hiL
    go_wp2_with fail
    go_ret
    unfold DaPost
    rw [HE.out]
    exact ⟨_,rfl,by have:=HSS.out;rw [List.append_nil,HEQ.out] at this;exact this.mono fun b _ hb=>Nat.le_trans HGR1.out.below.size hb,HSBR.out,(Chg.of_grows HGR1.out).trans HCR.out⟩
   | cons t c1 =>
    have hil:i < L1.length:=by rw [hL,List.length_append,hai];simp
    have i1:(i:Int) < (L1.length:Int):=by omega
    have hml:(a1.map (grpD x.n a)).length=i:=by rw [List.length_map];exact hai
    have hll:(a1.map (grpD x.n a)++t::c1).length=L1.length:=by rw [hL];simp
    obtain ⟨b2,o2,cp2,e2,ib2,hok2,-,-⟩:=hss.form (by omega)
    injection e2 with e2 e3 e4
    subst e2
    subst e4
    obtain ⟨At,ct,hN⟩:=hss.nth rfl
    rw [hml] at hN
    obtain ⟨wx,hwx⟩:∃ z,z=wr:=⟨_,rfl⟩
    subst hwx
    have ht:=HIN.out t (by rw [hL];simp)
    have f0:∀ j,wx.frozen? ⟨b2,j,none⟩=false:=hfr b2 o2 _ _ rfl
    have HML:=Lib.hid hml
    have HL:=Lib.hid (And.intro hL hai)
    have HT9:=Lib.hid ht
    have n2s:b2≠sb:=by have:=HGR1.out.below.size;omega
    have HXr:Hid (blk wx bX=ndC x (.slice A k.len cap)):=Lib.hid ((chg_blk hcr HBB.out.2.2.1 nX).trans HX1.out)
    have e258:=(Blk.cell HXr.out (ndC_pos _ _) 258).trans (ndA_258 _ _ _ _ _ _ _)
    have ibX:InHeap bX wx:=Blk.inHeap HXr.out (ndC_pos _ _)
    have d0:=hN.c0
    have s0:wx.cell? ⟨b2,o2+i*22+1+x.n*2,none⟩=some (.int .i64 (t.2.1.getD (2*x.n) 0)):=by rw [Nat.mul_comm x.n 2];exact hN.sp _ _ (spC_get (by rw [hN.len];omega))
    have s1:wx.cell? ⟨b2,o2+i*22+1+x.n*2+1,none⟩=some (.int .i64 (t.2.1.getD (2*x.n+1) 0)):=by rw [Nat.mul_comm x.n 2];exact hN.sp (2*x.n+1) _ (spC_get (by rw [hN.len];omega))
    clear hq hss hsbr hcr hL hai hN ht hfr e3 hll hml
    have hxn2:(x.n:Int) < 10:=by omega
    have hxn3:x.n≤9:=by omega
    obtain ⟨t2,ht2⟩:∃ z:St,z=(t.1,spSet t.2.1 x.n a t.1,t.2.2):=⟨_,rfl⟩
    have HT2:=Lib.hid ht2
    clear ht2
    go_upto_region 7 with fail
    go_cut [] (fun wz=>SsAt (fun b=>w1.heap.size≤b) wz (.slice (some ⟨b2,o2,none⟩) L1.length cap1) (a1.map (grpD x.n a)++t2::c1)∧Chg (fun b=>b=b2) wx wz∧∀ j,wz.frozen? ⟨b2,j,none⟩=false)
    case first =>
     go_region_law (fail)
     all_goals (
      go_wp2_with fail
      go_meet
      have h1:=SsAt.putSp (N:=x.n) (x:=(a:Int)) (y:=(t.1:Int)) HSS.out hxn
      rw [HML.out,Nat.mul_comm 2 x.n] at h1
      simp only [World.setCells] at h1
      rw [HT2.out]
      exact ⟨h1.grows (by repeat' first | exact Grows.refl _ | refine Grows.drewN ?_ _ | refine Grows.drew ?_),((chg_cell _ _ _ _).trans (chg_cell _ _ _ _)).trans (Chg.of_grows (by repeat' first | exact Grows.refl _ | refine Grows.drewN ?_ _ | refine Grows.drew ?_)),fun j=>by simp [go_sem,World.frozen?_setCell,f0 j]⟩)
    case rest =>
    obtain ⟨hss,hc3,f1⟩:=hcut
    obtain ⟨wy,hwy⟩:∃ z,z=wc:=⟨_,rfl⟩
    subst hwy
    have HSS2:=Lib.hid hss
    have HC3:=Lib.hid hc3
    have ht21:t2.1=t.1:=by rw [HT2.out]
    have ht22:t2.2.2=t.2.2:=by rw [HT2.out]
    have hgt:(t2.1,t2.2.1,Wy.cons (t.1 - a) t.2.2 .nil)=grpD x.n a t:=by rw [HT2.out];rfl
    clear d0 s0 s1 e258 ibX f0 hc3
    obtain ⟨At,ct,hN⟩:=hss.nth rfl
    rw [HML.out] at hN
    have d0:=hN.c0
    have d21:=hN.c21
    have HWY:=Lib.hid hN.wy
    rw [ht21] at d0
    rw [ht22] at d21
    rw [ht22] at HWY
    have ib2:InHeap b2 wy:=hN.inh
    obtain ⟨D,hD⟩:∃ D:Nat,(t.1:Int) - (a:Int)=(D:Int):=⟨t.1 - a,by have:=HT9.out.1;omega⟩
    have hD2:t.1 - a=D:=by omega
    have hD9:D≤60000:=by have:=HT9.out.2.1;omega
    have hwD:IntKind.i64.wrap (D:Int)=(D:Int):=IntWalk.i64_in _ (by omega)
    have ht9:t.1≤60000:=by have:=HT9.out.2.1;omega
    rw [hD2] at hgt
    have HGT:=Lib.hid hgt
    have nb2:b2 < wy.heap.size:=ib2
    clear hss hN hgt ht21 ht22 hD2
    go_upto_region 8 with fail
    go_region_law (fail)
    all_goals (
     have hga:Grows wy (wy.alloc (.cells #[.int .i64 D,.slice At t.2.2.len ct] 130)):=(Grows.refl _).alloc _
     have h1:=SsAt.putWy (k:=Wy.cons D t.2.2 .nil) (A':=some ⟨wy.heap.size,0,none⟩) (cp':=1) HSS2.out hga (wy_blk (blk_alloc_at _ _ _ _ rfl) (HWY.out.grows hga) (by omega) ⟨by have:=HCR.out.size;have:=HC3.out.size;omega,by omega⟩)
     rw [HML.out,HGT.out] at h1
     have h2:=(Chg.of_grows (p:=fun b=>b=b2) hga).trans (chg_cell (wy.alloc (.cells #[.int .i64 D,.slice At t.2.2.len ct] 130)) b2 (o2+i*22+21) (.slice (some ⟨wy.heap.size,0,none⟩) (Wy.cons D t.2.2 .nil).len 1))
     have h3:∀ j,((wy.alloc (.cells #[.int .i64 D,.slice At t.2.2.len ct] 130)).setCell ⟨b2,o2+i*22+21,none⟩ (.slice (some ⟨wy.heap.size,0,none⟩) (Wy.cons D t.2.2 .nil).len 1)).frozen? ⟨b2,j,none⟩=false:=fun j=>by rw [World.frozen?_setCell];exact ((Chg.of_grows (p:=fun _=>False) hga).frozen (a:=⟨b2,j,none⟩) nb2 fun h=>h).trans (f1 j)
     rw [show (Wy.cons D t.2.2 Wy.nil).len=1 from rfl,setCell_alloc_in (h:=ib2)] at h1 h2
     simp only [show (Wy.cons D t.2.2 Wy.nil).len=1 from rfl,setCell_alloc_in (h:=ib2)] at h3
     have H1:=Lib.hid h1
     have H2:=Lib.hid (HC3.out.trans h2)
     have H3:=Lib.hid h3
     clear h1 h2 h3 hga d0 d21 f1 ib2 nb2 hD
     go_wp2_with fail
     go_roundg (gk - 1)
     case measure=>have:=HQ.out;omega
     case rel=>exact ⟨i+1,a1++[t],c1,by have:=HQ.out;omega,by go_num,by rw [List.append_assoc];exact HL.out.1,by rw [List.length_append,HL.out.2];rfl,by rw [List.map_append,List.append_assoc];exact H1.out.grows (by repeat' first | exact Grows.refl _ | refine Grows.drewN ?_ _ | refine Grows.drew ?_),(chg_blk (H2.out.trans (Chg.of_grows (by repeat' first | exact Grows.refl _ | refine Grows.drewN ?_ _ | refine Grows.drew ?_))) (Blk.inHeap HSBR.out (by simp [daC])) (fun e=>n2s e.symm)).trans HSBR.out,chg_late HCR.out (H2.out.trans (Chg.of_grows (by repeat' first | exact Grows.refl _ | refine Grows.drewN ?_ _ | refine Grows.drew ?_))) (fun b hb e=>by omega),fun b o n c e j=>by cases e;exact H3.out j⟩)
 have b7:((x.kind:Int) == 7)=false:=by simp;omega
 by_cases h8:x.kind=8
 ·have b8:((x.kind:Int) == 8)=true:=by simp;omega
  have hcall:=HTURN.out w1 (HA.out.grows HGR1.out) ha HG.out HSB1.out hn
  simp only [show ((0:Nat):Int)=0 from rfl] at hcall
  have hin:=turn_in (n:=s.length) (most:=most) (x:=x) (R:=fun a g n=>rowR10 s most k a g n) (U:=unsetV k) (M:=k.len) (fun a g m ha hg=>row_in k a g m HK.out ha hg) (fun g hg=>unset_inS HK.out hg) (fuelK s.length x a 0) 0 a g n ha HG.out
  have HE:=Lib.hid (nodeD8 (s:=s) (most:=most) (k:=k) (a:=a) (n:=n) (g:=g) h8)
  have hld:loadPart Tryz.prog w1 91 bX 0 262=.ok (.agg (ndC x (.slice A k.len cap))) w1:=node_loadR (ndA_size _ _ _ _ _ _ _) fun j u hu=>by rw [Nat.zero_add];exact (Blk.cell HX1.out (ndC_pos _ _) j).trans hu
  clear h7 h8
  go_wp2_with fail
  (with_reducible refine hcall.mono ?_)
  rintro e9 w2 hpost
  clear hcall q4 e0 e261 ibX ibG hld
  obtain ⟨N,hN⟩:∃ z,turnR most x (fun a g n=>rowR10 s most k a g n) (unsetV k) (fuelK s.length x a 0) 0 a g n=z:=⟨_,rfl⟩
  rw [hN] at hpost hin HE
  obtain ⟨v,rfl,hS,hsb2,hc2,hfr⟩:=hpost
  obtain ⟨L1,hL1⟩:∃ z,N.1=z:=⟨_,rfl⟩
  obtain ⟨m0,hm0⟩:∃ z,N.2=z:=⟨_,rfl⟩
  rw [hL1] at hS hin HE
  rw [hm0] at hsb2 HE
  have HIN:=Lib.hid hin
  have HS:=Lib.hid hS
  have HSB2:=Lib.hid hsb2
  have HC2:=Lib.hid hc2
  obtain ⟨A1,cap1,xs1,rfl,hsl1,-⟩:=hS
  have HFR:=Lib.hid hfr
  have h63:=hsl1.cap63
  have hL9:L1.length≤cap1:=hsl1.le
  clear hin hN hL1 hm0 hsb2 hc2 hfr hsl1
  go_wp2_with fail
  go_loopg [12] L1.length (fun q v10 wr=>∃ (i:Nat) (a1 c1:List St),q+i=L1.length∧v10=.int .i64 i∧L1=a1++c1∧a1.length=i∧SsAt (fun b=>w1.heap.size≤b) wr (.slice A1 L1.length cap1) (a1.map (timD a)++c1)∧blk wr sb=daC s m0 most∧Chg (fun b=>b=sb) w1 wr∧Free wr (.slice A1 L1.length cap1))
  case atStart=>exact ⟨0,[],L1,by omega,rfl,rfl,rfl,HS.out,HSB2.out,HC2.out,HFR.out⟩
  case round =>
   obtain ⟨i,a1,c1,hq,rfl,hL,hai,hss,hsbr,hcr,hfr⟩:=hrel
   have HQ:=Lib.hid hq
   have HSS:=Lib.hid hss
   have HSBR:=Lib.hid hsbr
   have HCR:=Lib.hid hcr
   cases c1 with
   | nil =>
    have hiL:i=L1.length:=by rw [hL,List.append_nil];exact hai.symm
    have haL:a1=L1:=by rw [hL,List.append_nil]
    have HEQ:=Lib.hid haL
    clear hq hss hsbr hcr hL hai haL hfr
    subst hiL
    go_wp2_with fail
    go_ret
    unfold DaPost
    rw [HE.out]
    exact ⟨_,rfl,by have:=HSS.out;rw [List.append_nil,HEQ.out] at this;exact this.mono fun b _ hb=>Nat.le_trans HGR1.out.below.size hb,HSBR.out,(Chg.of_grows HGR1.out).trans HCR.out⟩
   | cons t c1 =>
    have hil:i < L1.length:=by rw [hL,List.length_append,hai];simp
    have i1:(i:Int) < (L1.length:Int):=by omega
    have hml:(a1.map (timD a)).length=i:=by rw [List.length_map];exact hai
    have hll:(a1.map (timD a)++t::c1).length=L1.length:=by rw [hL];simp
    obtain ⟨b2,o2,cp2,e2,ib2,hok2,-,-⟩:=hss.form (by omega)
    injection e2 with e2 e3 e4
    subst e2
    subst e4
    obtain ⟨At,ct,hN⟩:=hss.nth rfl
    rw [hml] at hN
    obtain ⟨wx,hwx⟩:∃ z,z=wr:=⟨_,rfl⟩
    subst hwx
    have ht:=HIN.out t (by rw [hL];simp)
    have f0:∀ j,wx.frozen? ⟨b2,j,none⟩=false:=hfr b2 o2 _ _ rfl
    have HML:=Lib.hid hml
    have HL:=Lib.hid (And.intro hL hai)
    have HT9:=Lib.hid ht
    have n2s:b2≠sb:=by have:=HGR1.out.below.size;omega
    clear hq hsbr hcr hL hai hN ht hfr e3 hll hml
    obtain ⟨t2,ht2⟩:∃ z:St,z=t:=⟨_,rfl⟩
    obtain ⟨wy,hwy⟩:∃ z,z=wx:=⟨_,rfl⟩
    rw [← ht2] at hss
    have HSS2:Hid (SsAt (fun b=>w1.heap.size≤b) wx (.slice (some ⟨b2,o2,none⟩) L1.length cap1) (a1.map (timD a)++t2::c1)):=Lib.hid hss
    have HC3:Hid (Chg (fun b=>b=b2) wx wx):=Lib.hid (Chg.refl _ _)
    have ht21:t2.1=t.1:=by rw [ht2]
    have ht22:t2.2.2=t.2.2:=by rw [ht2]
    have hgt:(t2.1,t2.2.1,Wy.cons (t.1 - a) t.2.2 .nil)=timD a t:=by rw [ht2];rfl
    have f1:=f0
    subst hwy
    clear ht2 f0
    obtain ⟨At,ct,hN⟩:=hss.nth rfl
    rw [HML.out] at hN
    have d0:=hN.c0
    have d21:=hN.c21
    have HWY:=Lib.hid hN.wy
    rw [ht21] at d0
    rw [ht22] at d21
    rw [ht22] at HWY
    have ib2:InHeap b2 wy:=hN.inh
    obtain ⟨D,hD⟩:∃ D:Nat,(t.1:Int) - (a:Int)=(D:Int):=⟨t.1 - a,by have:=HT9.out.1;omega⟩
    have hD2:t.1 - a=D:=by omega
    have hD9:D≤60000:=by have:=HT9.out.2.1;omega
    have hwD:IntKind.i64.wrap (D:Int)=(D:Int):=IntWalk.i64_in _ (by omega)
    have ht9:t.1≤60000:=by have:=HT9.out.2.1;omega
    rw [hD2] at hgt
    have HGT:=Lib.hid hgt
    have nb2:b2 < wy.heap.size:=ib2
    clear hss hN hgt ht21 ht22 hD2
    go_upto_region 15 with fail
    go_region_law (fail)
    all_goals (
     have hga:Grows wy (wy.alloc (.cells #[.int .i64 D,.slice At t.2.2.len ct] 130)):=(Grows.refl _).alloc _
     have h1:=SsAt.putWy (k:=Wy.cons D t.2.2 .nil) (A':=some ⟨wy.heap.size,0,none⟩) (cp':=1) HSS2.out hga (wy_blk (blk_alloc_at _ _ _ _ rfl) (HWY.out.grows hga) (by omega) ⟨by have:=HCR.out.size;have:=HC3.out.size;omega,by omega⟩)
     rw [HML.out,HGT.out] at h1
     have h2:=(Chg.of_grows (p:=fun b=>b=b2) hga).trans (chg_cell (wy.alloc (.cells #[.int .i64 D,.slice At t.2.2.len ct] 130)) b2 (o2+i*22+21) (.slice (some ⟨wy.heap.size,0,none⟩) (Wy.cons D t.2.2 .nil).len 1))
     have h3:∀ j,((wy.alloc (.cells #[.int .i64 D,.slice At t.2.2.len ct] 130)).setCell ⟨b2,o2+i*22+21,none⟩ (.slice (some ⟨wy.heap.size,0,none⟩) (Wy.cons D t.2.2 .nil).len 1)).frozen? ⟨b2,j,none⟩=false:=fun j=>by rw [World.frozen?_setCell];exact ((Chg.of_grows (p:=fun _=>False) hga).frozen (a:=⟨b2,j,none⟩) nb2 fun h=>h).trans (f1 j)
     rw [show (Wy.cons D t.2.2 Wy.nil).len=1 from rfl,setCell_alloc_in (h:=ib2)] at h1 h2
     simp only [show (Wy.cons D t.2.2 Wy.nil).len=1 from rfl,setCell_alloc_in (h:=ib2)] at h3
     have H1:=Lib.hid h1
     have H2:=Lib.hid (HC3.out.trans h2)
     have H3:=Lib.hid h3
     clear h1 h2 h3 hga d0 d21 f1 ib2 nb2 hD
     go_wp2_with fail
     go_roundg (gk - 1)
     case measure=>have:=HQ.out;omega
     case rel=>exact ⟨i+1,a1++[t],c1,by have:=HQ.out;omega,by go_num,by rw [List.append_assoc];exact HL.out.1,by rw [List.length_append,HL.out.2];rfl,by rw [List.map_append,List.append_assoc];exact H1.out.grows (by repeat' first | exact Grows.refl _ | refine Grows.drewN ?_ _ | refine Grows.drew ?_),(chg_blk (H2.out.trans (Chg.of_grows (by repeat' first | exact Grows.refl _ | refine Grows.drewN ?_ _ | refine Grows.drew ?_))) (Blk.inHeap HSBR.out (by simp [daC])) (fun e=>n2s e.symm)).trans HSBR.out,chg_late HCR.out (H2.out.trans (Chg.of_grows (by repeat' first | exact Grows.refl _ | refine Grows.drewN ?_ _ | refine Grows.drew ?_))) (fun b hb e=>by omega),fun b o n c e j=>by cases e;exact H3.out j⟩)
 have b8:((x.kind:Int) == 8)=false:=by simp;omega
 have HE:=Lib.hid (nodeD1 (s:=s) (most:=most) (k:=k) (a:=a) (n:=n) (g:=g) h7 h8)
 have hcall:=one_anyD x A k.len cap s a g sb n most w1 HSB1.out HG.out ha (fun _=>hxn) hs (by omega)
 have hld:loadPart Tryz.prog w1 91 bX 0 262=.ok (.agg (ndC x (.slice A k.len cap))) w1:=node_loadR (ndA_size _ _ _ _ _ _ _) fun j u hu=>by rw [Nat.zero_add];exact (Blk.cell HX1.out (ndC_pos _ _) j).trans hu
 clear h7 h8
 go_wp2_with fail
 (with_reducible refine hcall.mono ?_)
 rintro e9 w2 ⟨v,rfl,hS2,hsb2,hc2⟩
 clear hcall q4 e0 e261 ibX ibG hld
 go_wp2_with fail
 go_ret
 unfold DaPost
 rw [HE.out]
 exact ⟨v,rfl,hS2.mono fun b _ hb=>Nat.le_trans HGR1.out.below.size hb,hsb2,(Chg.of_grows HGR1.out).trans hc2⟩
end
end Go.Proofs.YtnjagecmhdagkaaGreatDoor
