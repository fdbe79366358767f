/-
 Several texts of the proof: MatSi, MatAl.
-/
import Derived.Test.YtnjagecmhdagkaaGreatDoorPk34
import Derived.Test.YtnjagecmhdagkaaGreatDoorPk36
set_option linter.unusedSimpArgs false
set_option linter.unusedVariables false
set_option maxRecDepth 3000
/-
  Matches by all ways: the best way so far, walked.
-/
namespace Go.Proofs.YtnjagecmhdagkaaGreatDoor
open Go.RowKit
def allT (σ:Sg) (e:Nat) (ws:Wy):Bool:=match σ.best with
 | none=>true
 | some (g0,w0)=>decide (spB g0 0 < e) || (decide (spB g0 0=e) && decide (0 < betterV ws w0))
def allK (a0:Nat) (e:Nat) (g:Spn) (ws:Wy) (σ:Sg):Sg:=if allT σ e ws then { σ with best:=some (spSet g 0 a0 e,ws) } else σ
theorem sr_kept {s:List UInt8} {fuel:Int} {sb rb ob:Nat} {σ:Sg} {w:World} {b0:Value} {cr:Array Value} {bo:Bool} {g':Spn} {ws:Wy} {A:Option Addr} {c:Nat} (hs:blk w sb=srC s fuel σ.spent b0 (.slice none 0 0)) (hr:blk w rb=cr) (hrs:cr.size=20) (ho:blk w ob=#[.bool bo]) (hd:sb≠rb∧sb≠ob∧rb≠ob) (hg:g'.length=20) (hws:WyAt (fun b=>¬ MutB sb rb ob b) w A c ws) :
  SrAt s fuel sb rb ob { σ with best:=some (g',ws) } (((setBlk w rb (spC g')).setCell ⟨ob,0,none⟩ (.bool true)).setCell ⟨sb,3,none⟩ (.slice A ws.len c)).drew∧Chg (MutB sb rb ob) w (((setBlk w rb (spC g')).setCell ⟨ob,0,none⟩ (.bool true)).setCell ⟨sb,3,none⟩ (.slice A ws.len c)).drew:=by
 obtain ⟨n1,n2,n3⟩:=hd
 have h1:Chg (MutB sb rb ob) w (setBlk w rb (spC g')):=chg_setBlkM (.inr (.inl rfl))
 have o1:blk (setBlk w rb (spC g')) ob=#[.bool bo]:=(blk_setBlk_other _ _ _ _ n3.symm).trans ho
 have s1:blk (setBlk w rb (spC g')) sb=srC s fuel σ.spent b0 (.slice none 0 0):=(blk_setBlk_other _ _ _ _ n1).trans hs
 have r1:blk (setBlk w rb (spC g')) rb=spC g':=Blk.get _ hr (by omega)
 rw [Blk.set o1 (by simp) 0]
 have h2:Chg (MutB sb rb ob) w (setBlk (setBlk w rb (spC g')) ob (#[Value.bool bo].setIfInBounds 0 (.bool true))):=h1.trans (chg_setBlkM (.inr (.inr rfl)))
 have o2:blk (setBlk (setBlk w rb (spC g')) ob (#[Value.bool bo].setIfInBounds 0 (.bool true))) ob=#[Value.bool true]:=Blk.get _ o1 (by simp)
 have s2:=(blk_setBlk_other (setBlk w rb (spC g')) ob sb (#[Value.bool bo].setIfInBounds 0 (.bool true)) n2).trans s1
 have r2:=(blk_setBlk_other (setBlk w rb (spC g')) ob rb (#[Value.bool bo].setIfInBounds 0 (.bool true)) n3).trans r1
 generalize setBlk (setBlk w rb (spC g')) ob (#[Value.bool bo].setIfInBounds 0 (.bool true))=w2 at *
 rw [Blk.set s2 (by simp [srC]) 3]
 have h3:Chg (MutB sb rb ob) w (setBlk w2 sb ((srC s fuel σ.spent b0 (.slice none 0 0)).setIfInBounds 3 (.slice A ws.len c))):=h2.trans (chg_setBlkM (.inl rfl))
 have o3:=(blk_setBlk_other w2 sb ob ((srC s fuel σ.spent b0 (.slice none 0 0)).setIfInBounds 3 (.slice A ws.len c)) n2.symm).trans o2
 have r3:=(blk_setBlk_other w2 sb rb ((srC s fuel σ.spent b0 (.slice none 0 0)).setIfInBounds 3 (.slice A ws.len c)) n1.symm).trans r2
 have s3:blk (setBlk w2 sb ((srC s fuel σ.spent b0 (.slice none 0 0)).setIfInBounds 3 (.slice A ws.len c))) sb=srC s fuel σ.spent (.slice A ws.len c) (.slice none 0 0):=Blk.get _ s2 (by simp [srC])
 generalize setBlk w2 sb ((srC s fuel σ.spent b0 (.slice none 0 0)).setIfInBounds 3 (.slice A ws.len c))=w3 at *
 refine ⟨SrAt.grows ?_ ((Grows.refl _).drew),chgDrew h3⟩
 exact ⟨A,ws.len,c,s3,rfl,hws.chg h3 (fun _ _ h=>h),r3,hg,o3⟩
theorem enters_all1:Enters 42:=enters_of Tryz.func42 (by kernel_rfl) rfl
attribute [local go_sem ↓] ldSp_eq stSp_eq zeroSp
attribute [local go_sem] loadSp loadSp_if storeSp storeSp_if spC_one
section
variable {s:List UInt8} {fuel:Int} {sb rb ob lo:Nat} {σ:Sg} {w w':World}
set_option maxRecDepth 100000 in
set_option maxHeartbeats 8000000 in
theorem all1_any (a0:Nat) (W0:World) {bS bA:Nat} (hS:blk W0 bS=#[.pointer (some ⟨sb,0,none⟩)]) (hA:blk W0 bA=#[.int .i64 a0]) (hne:¬ MutB sb rb ob bS∧¬ MutB sb rb ob bA) (hd:sb≠rb∧sb≠ob∧rb≠ob) (hmx:sb < W0.heap.size∧rb < W0.heap.size∧ob < W0.heap.size) (ha0:a0≤60000) (hs:s.length≤60000) :
  ContC s fuel sb rb ob W0 (.func (.func 42) #[] #[.pointer (some ⟨ob,0,none⟩),.pointer (some ⟨rb,0,none⟩),.pointer (some ⟨bS,0,none⟩),.pointer (some ⟨bA,0,none⟩)]) (allK a0) 0:=by
 refine ⟨_,_,rfl,enters_all1,fun a g ws A c σ w hc _ han hg hwy hwl hsr _=>?_⟩
 have HSR:=Lib.hid hsr
 obtain ⟨BA,bn,bc,hb1,hb2⟩:=hsr
 have hsz:=hc.size
 have d1:=cellC (Blk.cell hS (by simp) 0) hc hne.1
 have d2:=cellC (Blk.cell hA (by simp) 0) hc hne.2
 have hgl:=hg.len
 have hspz:(spC g).size=20:=by rw [spC_size];exact hgl
 have hfr:∀ b,w.heap.size≤b→¬ MutB sb rb ob b:=fun b hb e=>by unfold MutB at e;omega
 obtain ⟨T,hT⟩:∃ T,allT σ a ws=T:=⟨_,rfl⟩
 obtain ⟨gr,bo,hrb,hgr,hob,hno,hso⟩:∃ (gr:Spn) (bo:Bool),blk w rb=spC gr∧gr.length=20∧blk w ob=#[.bool bo]∧(σ.best=none→bo=false∧T=true)∧(∀ g0 w0,σ.best=some (g0,w0)→bo=true∧gr=g0∧bn=w0.len∧WyAt (fun b=>¬ MutB sb rb ob b) w BA bc w0∧(decide (spB g0 0 < a) || (decide (spB g0 0=a) && decide (0 < betterV ws w0)))=T):=by
  cases hbest:σ.best with
  | none =>
   rw [hbest] at hb2
   obtain ⟨rfl,rfl,rfl,h1,h2⟩:=hb2
   exact ⟨spZero,false,h1,rfl,h2,fun _=>⟨rfl,by rw [← hT];unfold allT;rw [hbest]⟩,fun _ _ e=>by cases e⟩
  | some y =>
   obtain ⟨g0,w0⟩:=y
   rw [hbest] at hb2
   obtain ⟨h1,h2,h3,h4,h5⟩:=hb2
   exact ⟨g0,true,h3,h4,h5,fun e=>by (cases e),fun _ _ e=>by
    cases e
    exact ⟨rfl,rfl,h1,h2,by rw [← hT];unfold allT;rw [hbest]⟩⟩
 have HG:=Lib.hid hg
 have HWY:=Lib.hid hwy
 have HFR:=Lib.hid hfr
 have ha6:a≤60000:=by omega
 have HBS:Hid (bS < w.heap.size∧bA < w.heap.size):=Lib.hid ⟨World.block_lt_of_cell? _ _ d1,World.block_lt_of_cell? _ _ d2⟩
 obtain ⟨S,hSe⟩:∃ S,allK a0 a g ws σ=S:=⟨_,rfl⟩
 rw [hSe]
 unfold allK at hSe
 rw [hT] at hSe
 have HSE:=Lib.hid hSe
 have HNS:Hid (bS≠sb∧bS≠rb∧bS≠ob):=Lib.hid ⟨fun e=>hne.1 (.inl e),fun e=>hne.1 (.inr (.inl e)),fun e=>hne.1 (.inr (.inr e))⟩
 have HNO:=Lib.hid hno
 have HSO:=Lib.hid hso
 have HMX:Hid (sb < w.heap.size∧rb < w.heap.size∧ob < w.heap.size):=Lib.hid ⟨by omega,by omega,by omega⟩
 have HNE:=Lib.hid hne
 clear hS hA hne hsz hmx hg hwy hfr hSe hwl hc hno hso hb2 hT
 have hgA:Grows w (w.alloc (Obj.cells (spC g) 35)):=(Grows.refl _).alloc _
 have HGA:=Lib.hid hgA
 go_enter Tryz.func42,Tryz.ntmps42
 go_upto_region 1 with fail
 obtain ⟨bG,hbGe⟩:∃ z,z=w.heap.size:=⟨_,rfl⟩
 have hSG:SpAt (w.alloc (Obj.cells (spC g) 35)) w.heap.size g:=⟨blk_alloc_at _ _ _ _ rfl,hgl⟩
 have hsz1:(w.alloc (Obj.cells (spC g) 35)).heap.size=w.heap.size+1:=by simp
 rw [← hbGe] at hSG ⊢
 have e1:=cellG d1 hgA
 have e2:=cellG d2 hgA
 have hsb1:=blkG hb1 (by simp [srC]) hgA
 have hrb1:=blkG hrb (by rw [spC_size,hgr];decide) hgA
 have hob1:=blkG hob (by simp) hgA
 have HWYA:=Lib.hid (HWY.out.grows hgA)
 have HSO1:Hid (∀ g0 w0,σ.best=some (g0,w0)→bo=true∧gr=g0∧bn=w0.len∧WyAt (fun b=>¬ MutB sb rb ob b) (w.alloc (Obj.cells (spC g) 35)) BA bc w0∧(decide (spB g0 0 < a) || (decide (spB g0 0=a) && decide (0 < betterV ws w0)))=T):=Lib.hid fun g0 w0 h=>by
  obtain ⟨h1,h2,h3,h4,h5⟩:=HSO.out g0 w0 h
  exact ⟨h1,h2,h3,h4.grows hgA,h5⟩
 have HBG:=Lib.hid hbGe
 clear d1 d2 hb1 hrb hob HSO hgA hbGe
 generalize w.alloc (Obj.cells (spC g) 35)=w1 at *
 have HSZ1:=Lib.hid hsz1
 have HSG:=Lib.hid hSG
 have HE2:=Lib.hid e2
 have hgrs:(spC gr).size=20:=by rw [spC_size];exact hgr
 have isb:=Blk.inHeap hsb1 (by simp [srC])
 have o0:w1.cell? ⟨ob,0,none⟩=some (.bool bo):=Blk.cell hob1 (by simp) 0
 have r1:w1.cell? ⟨rb,1,none⟩=some (.int .i64 (gr.getD 1 0)):=(Blk.cell hrb1 (by omega) 1).trans (spC_get (by omega))
 have s3:w1.cell? ⟨sb,3,none⟩=some (.slice BA bn bc):=Blk.cell hsb1 (by simp [srC]) 3
 have iob:=Blk.inHeap hob1 (by simp)
 have irb:=Blk.inHeap hrb1 (by omega)
 have HSB:=Lib.hid hsb1
 have HRB:=Lib.hid hrb1
 have HOB:=Lib.hid hob1
 clear hsz1 hSG e2 hsb1 hrb1 hob1
 go_cut [34] (fun v34 wx=>v34=.bool T∧Grows w1 wx)
 case first =>
  cases hbest:σ.best with
  | none =>
   obtain ⟨rfl,rfl⟩:=HNO.out hbest
   go_wp2_with fail
   go_meet
   exact ⟨rfl,Grows.refl _⟩
  | some y =>
   obtain ⟨g0,w0⟩:=y
   obtain ⟨rfl,rfl,rfl,hw0,hTT⟩:=HSO1.out g0 w0 hbest
   have HTT:=Lib.hid hTT
   obtain ⟨z1,hz1⟩:∃ z,gr.getD 1 0=z:=⟨_,rfl⟩
   rw [hz1] at r1
   have hz2:spB gr 0=z1:=hz1
   by_cases k1:z1 < (a:Int)
   ·have b1:decide (z1 < (a:Int))=true:=decide_eq_true k1
    obtain rfl:true=T:=by rw [← HTT.out,hz2,b1];rfl
    clear hTT hz1 hz2 hw0
    go_wp2_with fail
    go_meet
    exact ⟨rfl,Grows.refl _⟩
   have b1:decide (z1 < (a:Int))=false:=decide_eq_false k1
   by_cases k2:z1=(a:Int)
   ·have b2:((a:Int) == z1)=true:=by rw [k2];exact beq_self_eq_true _
    obtain ⟨BV,hBV⟩:∃ z,betterV ws w0=z:=⟨_,rfl⟩
    have hTv:decide (0 < BV)=T:=by rw [← HTT.out,hz2,b1,decide_eq_true k2,hBV];simp
    have hcall:=better_any ws w0 _ A c BA bc w1 HWYA.out hw0 HWYA.out.sm hw0.sm
    rw [hBV] at hcall
    clear hTT hz1 hz2 hw0 k2 hBV HTT
    go_wp2_with fail
    (with_reducible refine hcall.mono ?_)
    rintro e9 w3 ⟨rfl,hg3⟩
    go_wp2_with fail
    go_meet
    exact ⟨by rw [← hTv],hg3⟩
   ·have b2:((a:Int) == z1)=false:=by rw [beq_eq_false_iff_ne];exact fun e=>k2 e.symm
    obtain rfl:false=T:=by rw [← HTT.out,hz2,b1,decide_eq_false k2];rfl
    clear hTT hz1 hz2 hw0
    go_wp2_with fail
    go_meet
    exact ⟨rfl,Grows.refl _⟩
 case rest =>
  obtain ⟨rfl,hgw⟩:=hcut
  have HS2:=Lib.hid (HSG.out.grows hgw)
  have e1':=cellG e1 hgw
  have e2':=cellG HE2.out hgw
  have sb2:=blkG HSB.out (by simp [srC]) hgw
  have rb2:=blkG HRB.out (by omega) hgw
  have ob2:=blkG HOB.out (by simp) hgw
  have HG2:=Lib.hid (HGA.out.trans hgw)
  have hwz:=hgw.below.size
  clear e1 o0 r1 s3 isb iob irb hgw
  cases T with
  | false =>
   have hs:=HSE.out
   rw [if_neg Bool.false_ne_true] at hs
   subst hs
   have HSR2:=HSR.out.grows HG2.out
   go_wp2_with fail
   exact ⟨rfl,.tuple #[],results_none rfl _ _ _,rfl,HSR2,Chg.of_grows HG2.out⟩
  | true =>
   have hSx:=HSE.out
   rw [if_pos rfl] at hSx
   have HSX:=Lib.hid hSx
   have hnG:¬ MutB sb rb ob bG:=by rw [HBG.out];exact HFR.out _ (Nat.le_refl _)
   have hnG2:bG≠sb∧bG≠rb∧bG≠ob:=⟨fun e=>hnG (.inl e),fun e=>hnG (.inr (.inl e)),fun e=>hnG (.inr (.inr e))⟩
   have nSG:bS≠bG:=fun e=>by have h1:=HBS.out.1;have h2:=HBG.out;omega
   have gf:=HS2.out.free
   have iG:InHeap bG wc:=HS2.out.inh
   have hS3:=HS2.out.put 0 a0 a
   have hc3:=sp_chg wc bG 0 (.int .i64 a0) (.int .i64 a)
   rw [Nat.zero_mul] at hS3 hc3
   have bS3:=cellC e1' hc3 nSG
   have sb3:=(chg_blk hc3 (Blk.inHeap sb2 (by simp [srC])) (fun e=>hnG2.1 e.symm)).trans sb2
   have rb3:=(chg_blk hc3 (Blk.inHeap rb2 (by omega)) (fun e=>hnG2.2.1 e.symm)).trans rb2
   have ob3:=(chg_blk hc3 (Blk.inHeap ob2 (by simp)) (fun e=>hnG2.2.2 e.symm)).trans ob2
   have hgW3:Grows w ((wc.setCell ⟨bG,0,none⟩ (.int .i64 a0)).setCell ⟨bG,0+1,none⟩ (.int .i64 a)):=Chg.grows (n:=0) HG2.out hc3 fun b hb=>by have h2:=HBG.out;omega
   have HGW3:Hid (Grows w _):=Lib.hid hgW3
   have HB3:Hid (_∧_∧_∧_):=Lib.hid ⟨sb3,rb3,ob3,bS3⟩
   have HS3:=Lib.hid hS3
   have s2c0:=HS2.out.cell (k:=0) (by omega)
   have s2c1:=HS2.out.cell (k:=1) (by omega)
   obtain ⟨z0,hz0⟩:∃ z,g.getD 0 0=z:=⟨_,rfl⟩
   obtain ⟨z1,hz1⟩:∃ z,g.getD 1 0=z:=⟨_,rfl⟩
   rw [hz0] at s2c0
   rw [hz1] at s2c1
   clear hz0 hz1 hc3 hSx sb2 rb2 ob2 e1' sb3 rb3 ob3 bS3 hgW3 hS3 hnG
   go_upto_region 3 with fail
   clear s2c0 s2c1 gf e2'
   obtain ⟨sb3,rb3,ob3,bS3⟩:=HB3.out
   clear HB3
   generalize (wc.setCell ⟨bG,0,none⟩ (.int .i64 a0)).setCell ⟨bG,0+1,none⟩ (.int .i64 a)=w3 at *
   have sf3:∀ j,w3.frozen? ⟨sb,j,none⟩=false:=fun j=>Blk.free sb3 (by simp [srC]) j
   have of3:∀ j,w3.frozen? ⟨ob,j,none⟩=false:=fun j=>Blk.free ob3 (by simp) j
   have s3:w3.cell? ⟨sb,3,none⟩=some (.slice BA bn bc):=Blk.cell sb3 (by simp [srC]) 3
   have o3:w3.cell? ⟨ob,0,none⟩=some (.bool bo):=Blk.cell ob3 (by simp) 0
   have isb:InHeap sb w3:=Blk.inHeap sb3 (by simp [srC])
   have iob:InHeap ob w3:=Blk.inHeap ob3 (by simp)
   have irb:InHeap rb w3:=Blk.inHeap rb3 (by omega)
   have ibG:InHeap bG w3:=HS3.out.inh
   have ibS:InHeap bS w3:=World.block_lt_of_cell? _ _ bS3
   have hgb:=HS3.out.eq
   have hsp2:(spC (spSet g 0 a0 a)).size=20:=by rw [spC_size];exact HS3.out.len
   have hspn:span (spC (spSet g 0 a0 a)) 0 20=spC (spSet g 0 a0 a):=span_all hsp2
   have hov2:over (spC gr) 0 (spC (spSet g 0 a0 a))=spC (spSet g 0 a0 a):=over_all (by rw [hgrs,hsp2])
   obtain ⟨n1,n2,n3⟩:=hd
   obtain ⟨n4,n5,n6⟩:=hnG2
   obtain ⟨n7,n8,n9⟩:=HNS.out
   have q1:∀ c,(setBlk w3 rb c).cell? ⟨sb,3,none⟩=some (.slice BA bn bc):=fun c=>(cell_setBlk_other _ _ _ _ n1).trans s3
   have q2:∀ c,(setBlk w3 rb c).cell? ⟨ob,0,none⟩=some (.bool bo):=fun c=>(cell_setBlk_other _ _ _ _ n3.symm).trans o3
   have q3:∀ c j,(setBlk w3 rb c).frozen? ⟨sb,j,none⟩=false:=fun c j=>Blk.free ((blk_setBlk_other _ _ _ _ n1).trans sb3) (by simp [srC]) j
   have q4:∀ c j,(setBlk w3 rb c).frozen? ⟨ob,j,none⟩=false:=fun c j=>Blk.free ((blk_setBlk_other _ _ _ _ n3.symm).trans ob3) (by simp) j
   have q5:∀ c,(setBlk w3 rb c).cell? ⟨bS,0,none⟩=some (.pointer (some ⟨sb,0,none⟩)):=fun c=>(cell_setBlk_other _ _ _ _ n8).trans bS3
   have HX3:=Lib.hid sb3
   have HX4:=Lib.hid ob3
   clear sb3 ob3
   go_region_law (fail)
   all_goals (
    go_wp2_with fail
    refine ⟨rfl,.tuple #[],results_none rfl _ _ _,rfl,?_,?_⟩
    ·rw [← HSX.out];exact (sr_kept HX3.out rb3 hgrs HX4.out ⟨n1,n2,n3⟩ HS3.out.len (HWY.out.grows HGW3.out)).1
    ·exact (Chg.of_grows HGW3.out).trans (sr_kept (σ:=σ) HX3.out rb3 hgrs HX4.out ⟨n1,n2,n3⟩ HS3.out.len (HWY.out.grows HGW3.out)).2)
end
end Go.Proofs.YtnjagecmhdagkaaGreatDoor
namespace Go.Proofs.YtnjagecmhdagkaaGreatDoor
open Go.RowKit
def allF (s:List UInt8) (f:Fr) (fuel:Int):Nat→Nat→Sg→Option Sg
 | 0,_,σ=>some σ
 | n+1,k,σ=>if σ.best.isSome then some σ else
  if overB fuel (runE (allK k) fuel (evR s f k spNone .nil) σ) then none else allF s f fuel n (k+1) (runE (allK k) fuel (evR s f k spNone .nil) σ)
def AllPost (R:Option Sg) (e:Ending):Prop:=match R with
 | none=>e=.returned (.tuple #[spV spZero,.bool false,.int .i64 100])
 | some σ=>match σ.best with
  | none=>e=.returned (.tuple #[spV spZero,.bool false,.int .i64 0])
  | some (g,_)=>e=.returned (.tuple #[spV g,.bool true,.int .i64 0])∧g.length=20
theorem setCell_sameM {w:World} {g:Nat} {c:Array Value} {v:Value} (h:blk w g=c) (hc:0 < c.size) (i:Nat) (hv:c[i]?=some v):w.setCell ⟨g,i,none⟩ v=w:=by
 rw [Blk.set h hc i v]
 have:c.setIfInBounds i v=c:=by
  obtain ⟨hi,hx⟩:=Array.getElem?_eq_some_iff.1 hv
  apply Array.ext (by simp)
  intro j h1 h2
  rw [Array.getElem_setIfInBounds]
  split
  ·subst_vars;rfl
  ·rfl
 rw [this,Blk.same h hc]
theorem results_sp3 {fn:Func} {T:Array Value} {w:World} {b ob:Nat} {c:Array Value} {v x:Value} (k j l:Nat) (h:fn.results=#[.cell k 35,.cell j 4,.tmp l]) (hT:T.getD k undef=.pointer (some ⟨b,0,none⟩)) (hj:T.getD j undef=.pointer (some ⟨ob,0,none⟩)) (hl:T.getD l undef=x) (hb:blk w b=c) (hc:c.size=20) (ho:w.cell? ⟨ob,0,none⟩=some v):(results fn T).run Tryz.prog w=.ok (.tuple #[.agg c,v,x]) w:=by
 have:=loadVarSp hb hc
 have h2:(Instr.loadAt 4 (.pointer (some ⟨ob,0,none⟩))).run Tryz.prog w=.ok v w:=by simp [go_sem,ho]
 have h3:(loadVar 4 ⟨ob,0,none⟩).run Tryz.prog w=.ok v w:=by simpa [Instr.loadAt,Instr.sureAddr] using h2
 rw [Array.getD_eq_getD_getElem?] at hT hj hl
 simp [results,h,hT,hj,hl,asAddr,this,h3]
theorem all_world {w w1:World} {s:List UInt8} {fuel:Int} {k0:Nat} (h:w1=((((w.alloc (Obj.cells (spC spZero) 35)).alloc (Obj.cells #[.bool false] 4)).alloc (Obj.cells (srC s fuel 0 (.slice none 0 0) (.slice none 0 0)) 107)).alloc (Obj.cells #[.pointer (some ⟨w.heap.size+2,0,none⟩)] 104)).alloc (Obj.cells #[.int .i64 k0] 3)) :
  blk w1 w.heap.size=spC spZero∧blk w1 (w.heap.size+1)=#[.bool false]∧blk w1 (w.heap.size+2)=srC s fuel 0 (.slice none 0 0) (.slice none 0 0)∧blk w1 (w.heap.size+3)=#[.pointer (some ⟨w.heap.size+2,0,none⟩)]∧blk w1 (w.heap.size+4)=#[.int .i64 k0]∧Grows w w1∧w1.heap.size=w.heap.size+5:=by
 subst h
 refine ⟨?_,?_,?_,?_,blk_alloc_at _ _ _ _ (by simp),(((((Grows.refl w).alloc _).alloc _).alloc _).alloc _).alloc _,by simp⟩
 ·exact blkG (blk_alloc_at w (spC spZero) _ _ rfl) (by rw [spC_size];decide) (((((Grows.refl _).alloc _).alloc _).alloc _).alloc _)
 ·exact blkG (blk_alloc_at _ #[.bool false] _ _ (by simp)) (by simp) ((((Grows.refl _).alloc _).alloc _).alloc _)
 ·exact blkG (blk_alloc_at _ (srC s fuel 0 (.slice none 0 0) (.slice none 0 0)) _ _ (by simp)) (by simp [srC]) (((Grows.refl _).alloc _).alloc _)
 ·exact blkG (blk_alloc_at _ #[.pointer (some ⟨w.heap.size+2,0,none⟩)] _ _ (by simp)) (by simp) ((Grows.refl _).alloc _)
theorem SrAt.res {s:List UInt8} {fuel:Int} {sb rb ob:Nat} {σ:Sg} {w:World} (h:SrAt s fuel sb rb ob σ w):∃ gr,blk w rb=spC gr∧gr.length=20∧blk w ob=#[.bool σ.best.isSome]∧(σ.best=none→gr=spZero)∧(∀ y,σ.best=some y→gr=y.1):=by
 obtain ⟨A,n,c,h1,h2⟩:=h
 cases hb:σ.best with
 | none =>
  rw [hb] at h2
  obtain ⟨_,_,_,h4,h5⟩:=h2
  exact ⟨spZero,h4,rfl,h5,fun _=>rfl,fun y e=>by cases e⟩
 | some y =>
  obtain ⟨g,ws⟩:=y
  rw [hb] at h2
  obtain ⟨_,_,h4,h5,h6⟩:=h2
  exact ⟨g,h4,h5,h6,fun e=>by (cases e),fun y e=>by (cases e;rfl)⟩
theorem none_drew {w w0:World} (hg:Grows w w0):Calls Tryz.prog 41 #[] w0 fun e w'=>e=.returned (spV spNone)∧Grows w w':=(none_any w0).mono fun e w' ⟨h1,h2⟩=>⟨h1,hg.trans h2⟩
attribute [local go_sem ↓] ldSp_eq stSp_eq zeroSp bldSp_eq
attribute [local go_sem] loadSp loadSp_if storeSp storeSp_if spC_one bldSp_run
section
variable {s:List UInt8} {fuel:Int}
set_option maxRecDepth 100000 in
set_option maxHeartbeats 8000000 in
theorem all_any (hs:s.length≤60000) (hfu:fuel≤1000000000) (f:Fr) (hnd:AllNd f) (hfz:f.size≤90000) (m:Nat) (ok:Nat→Prop) (A:Option Addr) (cap k0:Nat) (w:World) (hnf:NfAt ok w A cap f m) (hk:k0≤s.length) :
  Calls Tryz.prog 25 #[.slice A f.len cap,.string (tx s),.int .i64 k0,.int .i64 fuel] w fun e w'=>AllPost (allF s f fuel (s.length+1 - k0) k0 ⟨0,none⟩) e∧Grows w w':=by
 obtain ⟨lo,hlo⟩:∃ z,z=w.heap.size:=⟨_,rfl⟩
 have hnf2:NfAt (fun b=>b < lo) w A cap f m:=hnf.mono fun b hb _=>by omega
 obtain ⟨R,hR⟩:∃ R,allF s f fuel (s.length+1 - k0) k0 ⟨0,none⟩=R:=⟨_,rfl⟩
 rw [hR]
 have HNF:=Lib.hid hnf2
 have HR:=Lib.hid hR
 have HLO:=Lib.hid hlo
 have HND:=Lib.hid hnd
 have HFZ:=Lib.hid hfz
 have HFU:=Lib.hid hfu
 clear hnf hnf2 hR hlo hnd hfz hfu
 go_enter Tryz.func25,Tryz.ntmps25
 go_wp2_with fail
 generalize hw1:(((((w.alloc (Obj.cells (spC spZero) 35)).alloc (Obj.cells #[.bool false] 4)).alloc (Obj.cells #[.string (tx s),.int .i64 fuel,.int .i64 0,.slice none 0 0,.slice none 0 0] 107)).alloc (Obj.cells #[.pointer (some ⟨w.heap.size+1+1,0,none⟩)] 104)).alloc (Obj.cells #[.int .i64 k0] 3))=w1
 obtain ⟨h1,h2,h3,h4,h5,hg1,hz1⟩:=all_world hw1.symm
 clear hw1
 obtain ⟨sb,hsb⟩:∃ z,z=w.heap.size+1+1:=⟨_,rfl⟩
 obtain ⟨rb,hrb⟩:∃ z,z=w.heap.size:=⟨_,rfl⟩
 obtain ⟨ob,hob⟩:∃ z,z=w.heap.size+1:=⟨_,rfl⟩
 obtain ⟨bS,hbS⟩:∃ z,z=w.heap.size+1+1+1:=⟨_,rfl⟩
 obtain ⟨b0,hb0⟩:∃ z,z=w.heap.size+1+1+1+1:=⟨_,rfl⟩
 have hll:=HLO.out
 rw [show w.heap.size+2=sb from hsb.symm] at h3 h4
 rw [show w.heap.size+3=bS from hbS.symm] at h4
 rw [show w.heap.size+4=b0 from hb0.symm] at h5
 rw [← hb0,← hbS,← hob,← hrb]
 rw [← hob] at h2
 rw [← hrb] at h1
 have hNU:(sb≠rb∧sb≠ob∧rb≠ob)∧(lo≤sb∧lo≤rb∧lo≤ob)∧¬ MutB sb rb ob bS∧¬ MutB sb rb ob b0∧w.heap.size≤b0∧bS≠b0∧lo=w.heap.size:=by unfold MutB;omega
 have hS1:SrAt s fuel sb rb ob ⟨0,none⟩ w1:=⟨none,0,0,h3,rfl,rfl,rfl,h1,h2⟩
 have HNU:=Lib.hid hNU
 have HS1:=Lib.hid hS1
 have HB1:=Lib.hid (And.intro h4 h5)
 have HG1:=Lib.hid hg1
 clear h1 h2 h3 h4 h5 hg1 hz1 hsb hrb hob hbS hll hNU hS1
 go_loopg [12] (s.length+1 - k0) (fun q v12 wr=>∃ (k:Nat) (σ:Sg) (bA:Nat),v12=.pointer (some ⟨bA,0,none⟩)∧q+k=s.length+1∧blk wr bS=#[.pointer (some ⟨sb,0,none⟩)]∧blk wr bA=#[.int .i64 k]∧¬ MutB sb rb ob bA∧w.heap.size≤bA∧SrAt s fuel sb rb ob σ wr∧Grows w wr∧allF s f fuel q k σ=R)
 case atStart =>
  obtain ⟨n1,n2,n3,n4,n5,n6,n7⟩:=HNU.out
  exact ⟨k0,⟨0,none⟩,b0,rfl,by omega,HB1.out.1,HB1.out.2,n4,n5,HS1.out,HG1.out,HR.out⟩
 case round =>
  obtain ⟨k,σ,bA,rfl,hq,hbS,hbA,hnA,hlA,hS,hG,hP⟩:=hrel
  clear HS1 HB1 HG1 HR hb0
  obtain ⟨gr,hr1,hr2,ho1,hr3,hr4⟩:=hS.res
  have c1:wr.cell? ⟨bA,0,none⟩=some (.int .i64 k):=Blk.cell hbA (by simp) 0
  obtain ⟨bo,hbo⟩:∃ b,σ.best.isSome=b:=⟨_,rfl⟩
  rw [hbo] at ho1
  have c2:wr.cell? ⟨ob,0,none⟩=some (.bool bo):=Blk.cell ho1 (by simp) 0
  have c3:wr.cell? ⟨bS,0,none⟩=some (.pointer (some ⟨sb,0,none⟩)):=Blk.cell hbS (by simp) 0
  have HQ:=Lib.hid hq
  have HBS:=Lib.hid hbS
  have HBA:=Lib.hid hbA
  have HS:=Lib.hid hS
  have HG:=Lib.hid hG
  have HP:=Lib.hid hP
  have HBO:=Lib.hid hbo
  have HNA:=Lib.hid (And.intro hnA hlA)
  have HRS:Hid (_∧_∧_∧_∧_):=Lib.hid ⟨hr1,hr2,ho1,hr3,hr4⟩
  clear hq hbS hbA hS hG hP hnA hlA hr1 hr2 ho1 hr3 hr4 hbo
  by_cases hstep:k≤s.length∧bo=false
  ·obtain ⟨hk1,rfl⟩:=hstep
   have hki:(k:Int)≤(s.length:Int):=by omega
   obtain ⟨q1,hq1⟩:∃ q1,gk=q1+1:=⟨gk - 1,by have:=HQ.out;omega⟩
   have HQ1:=Lib.hid hq1
   obtain ⟨σ2,hσ2⟩:∃ z,runE (allK k) fuel (evR s f k spNone .nil) σ=z:=⟨_,rfl⟩
   have hP2:(if overB fuel σ2 then none else allF s f fuel q1 (k+1) σ2)=R:=by
    have:=HP.out
    rw [hq1] at this
    unfold allF at this
    rw [HBO.out,if_neg Bool.false_ne_true,hσ2] at this
    exact this
   have HP2:=Lib.hid hP2
   have HS2E:=Lib.hid hσ2
   have HSA:Hid (∀ w',Chg (MutB sb rb ob) wr w'→(w'.cell? ⟨bS,0,none⟩=some (.pointer (some ⟨sb,0,none⟩))∧w'.cell? ⟨bA,0,none⟩=some (.int .i64 k))):=Lib.hid fun w' hg=>⟨cellC c3 hg HNU.out.2.2.1,cellC c1 hg HNA.out.1⟩
   have hk6:k≤60000:=by omega
   clear HP hP2 hσ2 HRS hq1 HBO
   have iS:InHeap bS wr:=World.block_lt_of_cell? _ _ c3
   have iA:InHeap bA wr:=World.block_lt_of_cell? _ _ c1
   go_upto_region 5 with fail
   clear c1 c2 c3
   go_region_held3 (fun w'=>w'.cell? ⟨bS,0,none⟩=some (.pointer (some ⟨sb,0,none⟩))∧w'.cell? ⟨bA,0,none⟩=some (.int .i64 k))
    (exact HSA.out _ (by repeat' first | exact Chg.refl _ _ | exact (Chg.of_grows G2.out).trans C3.out | exact Chg.of_grows G2.out | refine chgDrewN ?_ _ | refine chgDrew ?_))
    (first
     | (go_at_call 41;(refine Calls.mono (none_drew (w:=wr) ?_) ?_);(repeat' first | exact Grows.refl _ | refine Grows.drewN ?_ _ | refine Grows.drew ?_);rintro e9 w2 ⟨rfl,hG2⟩;have G2:=Lib.hid hG2;clear hG2)
     | (go_at_call 40;(refine Calls.mono (srow_drew (srow_ok hs HFU.out HNU.out.2.1 f) m A cap k spNone .nil none 0 _ (allK k) σ HND.out (HNF.out.chg (Chg.of_grows (p:=fun _=>False) (HG.out.trans G2.out)) (fun _ _ _ h=>h)) hk1 (spIn_none _) (WyAt.zero _ _) (by have:=HFZ.out;simp only [Wy.len];omega) ((all1_any k w2 (blkG HBS.out (by simp) G2.out) (blkG HBA.out (by simp) G2.out) ⟨HNU.out.2.2.1,HNA.out.1⟩ HNU.out.1 (HS.out.grows G2.out).lts hk6 hs).mono (Chg.refl _ _) (Nat.zero_le _)) (HS.out.grows G2.out) ?_) ?_);(repeat' first | exact Grows.refl _ | exact G2.out | refine Grows.drewN ?_ _ | refine Grows.drew ?_);rintro e9 w3 ⟨rfl,hS3,hC3⟩;have S3:=Lib.hid hS3;have C3:=Lib.hid hC3;clear hS3 hC3))
   all_goals (
    have hc3:=(Chg.of_grows (p:=MutB sb rb ob) G2.out).trans C3.out
    have hS3:=S3.out
    rw [HS2E.out] at hS3
    obtain ⟨bb3,hbb3⟩:=hS3.sbblk
    have hbS3:=(chg_blk hc3 (Blk.inHeap HBS.out (by simp)) HNU.out.2.2.1).trans HBS.out
    have hbA3:=(chg_blk hc3 (Blk.inHeap HBA.out (by simp)) HNA.out.1).trans HBA.out
    have c3:w3.cell? ⟨bS,0,none⟩=some (.pointer (some ⟨sb,0,none⟩)):=Blk.cell hbS3 (by simp) 0
    have hGw3:Grows w w3:=Chg.grows (n:=0) HG.out hc3 fun b hb=>by have h1:=HNU.out.2.1;have h2:=HNU.out.2.2.2.2.2.2;unfold MutB at hb;omega
    have hover:=over_any w3 sb s fuel σ2.spent bb3 _ hbb3
    obtain ⟨O,hO⟩:∃ O,overB fuel σ2=O:=⟨_,rfl⟩
    have hO2:decide (fuel < (σ2.spent:Int))=O:=hO
    rw [hO2] at hover
    have HS3:=Lib.hid hS3
    have HBS3:=Lib.hid hbS3
    have HBA3:=Lib.hid hbA3
    have HG3:=Lib.hid hGw3
    have HO:=Lib.hid hO
    clear hc3 hS3 hbb3 hbS3 hbA3 hGw3 hO hO2 iS iA S3 C3 G2 HS HBS HBA HG
    go_wp2_with fail
    (with_reducible refine hover.mono ?_)
    rintro e9 w4 ⟨rfl,hg4⟩
    have HS4:=Lib.hid (HS3.out.grows hg4)
    have HBS4:=Lib.hid (blkG HBS3.out (by simp) hg4)
    have HBA4:=Lib.hid (blkG HBA3.out (by simp) hg4)
    have HG4:=Lib.hid (HG3.out.trans hg4)
    clear hover HS3 HBS3 HBA3 HG3 hg4 c3
    cases O with
    | true =>
     have hRs:=HP2.out
     rw [HO.out,if_pos rfl] at hRs
     subst hRs
     obtain ⟨gr2,hr1,hr2,ho1,_,_⟩:=HS4.out.res
     have hgs:(spC gr2).size=20:=by rw [spC_size];exact hr2
     have hz20:(spC spZero).size=20:=by rw [spC_size];rfl
     have hov:over (spC gr2) 0 (spC spZero)=spC spZero:=over_all (by omega)
     have iob:InHeap ob w4:=Blk.inHeap ho1 (by simp)
     have irb:InHeap rb w4:=Blk.inHeap hr1 (by omega)
     have hnro:=HNU.out.1.2.2
     have hro:blk (setBlk w4 rb (spC spZero)) ob=_:=(blk_setBlk_other _ _ _ _ hnro.symm).trans ho1
     have hco:(setBlk w4 rb (spC spZero)).cell? ⟨ob,0,none⟩=some _:=Blk.cell hro (by simp) 0
     have hfo:(setBlk w4 rb (spC spZero)).frozen? ⟨ob,0,none⟩=false:=Blk.free hro (by simp) 0
     have hrr:blk (setBlk w4 rb (spC spZero)) rb=spC spZero:=Blk.get _ hr1 (by omega)
     have hfin:∀ x,blk ((setBlk w4 rb (spC spZero)).setCell ⟨ob,0,none⟩ x) rb=spC spZero:=fun x=>(chg_blk (chg_cell _ ob 0 x) (Blk.inHeap hrr (by omega)) hnro).trans hrr
     have hfin2:blk ((setBlk w4 rb (spC spZero)).setCell ⟨ob,0,none⟩ (.bool false)) ob=#[.bool false]:=by
      have:=pa_put hro (by simp) 0 (.bool false)
      exact this
     have hcF:Chg (MutB sb rb ob) w4 ((setBlk w4 rb (spC spZero)).setCell ⟨ob,0,none⟩ (.bool false)):=(chg_setBlkM (K:=MutB sb rb ob) (.inr (.inl rfl))).trans ((chg_cell _ ob 0 _).mono fun b _ hb=>.inr (.inr hb))
     have hGF:Grows w ((setBlk w4 rb (spC spZero)).setCell ⟨ob,0,none⟩ (.bool false)):=Chg.grows (n:=0) HG4.out hcF fun b hb=>by have h1:=HNU.out.2.1;have h2:=HNU.out.2.2.2.2.2.2;unfold MutB at hb;omega
     have HF:=Lib.hid (And.intro (hfin (.bool false)) (And.intro (Blk.cell hfin2 (by simp) 0) hGF))
     clear hfin hfin2 hcF hGF hrr ho1
     go_wp2_with fail
     exact bodyPost_ret (results_sp3 8 9 10 rfl rfl rfl rfl (c:=spC spZero) HF.out.1 hz20 HF.out.2.1) rfl ⟨rfl,HF.out.2.2⟩
    | false =>
     have hRs:=HP2.out
     rw [HO.out,if_neg Bool.false_ne_true] at hRs
     have HP3:=Lib.hid hRs
     have c1:w4.cell? ⟨bA,0,none⟩=some (.int .i64 k):=Blk.cell HBA4.out (by simp) 0
     have hk7:IntKind.i64.wrap ((k:Int)+1)=(k+1:Nat):=by rw [wrap_small (by omega) (by omega)];rfl
     clear hRs HP2 HO
     go_wp2_with fail
     have hg5:Grows w4 (w4.alloc (Obj.cells #[.int .i64 ((k:Int)+1)] 3)):=(Grows.refl _).alloc _
     have hll:=HG4.out.below.size
     have hlt:=HS4.out.lts
     go_roundg q1
     case measure=>have:=HQ1.out;omega
     case rel=>exact ⟨k+1,σ2,w4.heap.size,rfl,by have:=HQ1.out;have:=HQ.out;omega,blkG HBS4.out (by simp) hg5,by rw [blk_alloc_at _ _ _ _ rfl];simp,fun e=>by (unfold MutB at e;omega),hll,HS4.out.grows hg5,HG4.out.trans hg5,HP3.out⟩)
  ·have hRs:R=some σ:=by
    rw [← HP.out]
    cases gk with
    | zero=>rfl
    | succ q =>
     have:=HQ.out
     unfold allF
     rw [if_pos]
     rw [HBO.out]
     cases bo with
     | true=>rfl
     | false=>exact absurd ⟨by omega,rfl⟩ hstep
   subst hRs
   obtain ⟨hr1,hr2,ho1,hr3,hr4⟩:=HRS.out
   have hgs:(spC gr).size=20:=by rw [spC_size];exact hr2
   have hspn:span (spC gr) 0 20=spC gr:=span_all hgs
   have hov:over (spC gr) 0 (spC gr)=spC gr:=over_all (by omega)
   have hsame:setBlk wr rb (spC gr)=wr:=Blk.same hr1 (by omega)
   have hsc:wr.setCell ⟨ob,0,none⟩ (.bool bo)=wr:=setCell_sameM ho1 (by simp) 0 rfl
   have hfo:wr.frozen? ⟨ob,0,none⟩=false:=Blk.free ho1 (by simp) 0
   have iob:InHeap ob wr:=Blk.inHeap ho1 (by simp)
   have irb:InHeap rb wr:=Blk.inHeap hr1 (by omega)
   have hpost:AllPost (some σ) (.returned (.tuple #[spV gr,.bool bo,.int .i64 0])):=by
    unfold AllPost
    dsimp only
    cases hb:σ.best with
    | none =>
     have:=HBO.out
     rw [hb] at this
     obtain rfl:false=bo:=this
     rw [hr3 hb]
    | some y =>
     have:=HBO.out
     rw [hb] at this
     obtain rfl:true=bo:=this
     obtain rfl:=hr4 _ hb
     exact ⟨rfl,hr2⟩
   have HPOST:=Lib.hid hpost
   clear hr3 hr4 ho1 hpost
   rcases (Nat.lt_or_ge s.length k) with hk1 | hk1
   ·have hki:¬ (k:Int)≤(s.length:Int):=by omega
    have hkd:decide (k≤s.length)=false:=by rw [decide_eq_false_iff_not];omega
    go_upto_region 10 with fail
    go_region_law (fail)
    all_goals (go_wp2_with fail;exact bodyPost_ret (results_sp3 8 9 10 rfl rfl rfl rfl (c:=spC gr) hr1 hgs c2) rfl ⟨HPOST.out,by repeat' first | exact HG.out | refine Grows.drewN ?_ _ | refine Grows.drew ?_⟩)
   ·have hki:(k:Int)≤(s.length:Int):=by omega
    obtain rfl:bo=true:=by cases bo with | true=>rfl | false=>exact absurd ⟨hk1,rfl⟩ hstep
    go_upto_region 10 with fail
    go_region_law (fail)
    all_goals (go_wp2_with fail;exact bodyPost_ret (results_sp3 8 9 10 rfl rfl rfl rfl (c:=spC gr) hr1 hgs c2) rfl ⟨HPOST.out,by repeat' first | exact HG.out | refine Grows.drewN ?_ _ | refine Grows.drew ?_⟩)
end
end Go.Proofs.YtnjagecmhdagkaaGreatDoor
