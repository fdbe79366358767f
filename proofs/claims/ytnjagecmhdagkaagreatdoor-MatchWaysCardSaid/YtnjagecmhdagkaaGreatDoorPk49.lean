/-
 Several texts of the proof: MatDk, MatDh, MatEq, MatWaL.
-/
import Derived.Test.YtnjagecmhdagkaaGreatDoorPk48
import Derived.Test.YtnjagecmhdagkaaGreatDoorPk30
import Derived.Test.YtnjagecmhdagkaaGreatDoorPk32
import Derived.Test.YtnjagecmhdagkaaGreatDoorPk41
import Derived.Test.YtnjagecmhdagkaaGreatDoorPk42
import Derived.Test.YtnjagecmhdagkaaGreatDoorPk33
set_option linter.unusedSimpArgs false
set_option linter.unusedVariables false
set_option maxRecDepth 3000
/-
  Matches, the document's way by all ways: from a place on, walked.
-/
namespace Go.Proofs.YtnjagecmhdagkaaGreatDoor
open Go.RowKit
attribute [local go_sem ↓] ldSp_eq stSp_eq zeroSp ldSt_eq stSt_eq zeroSt
attribute [local go_sem] loadSp loadSp_if storeSp storeSp_if spC_one loadSt storeSt storeSt_if
section
variable {s:List UInt8} {most:Int}
set_option maxRecDepth 100000 in
set_option maxHeartbeats 8000000 in
theorem alldoc_any (hs:s.length≤60000) (hm:0≤most) (hm9:most≤800000) {f:Fr} (hnd:AllNd f) (hfz:f.size≤1000) (A:Option Addr) (cap rb:Nat) (k:Int) (x1 x2 x3:Value) (w:World) (hrb:blk w rb=#[.slice A f.len cap,x1,x2,x3]) (hA:FrAt (fun _=>True) w A cap f) (hk:I64 k) :
  Calls Tryz.prog 13 #[.pointer (some ⟨rb,0,none⟩),.string (tx s),.int .i64 k,.int .i64 most] w fun e w'=>(e=.returned (.tuple #[spV (allRk s f most k 0).1,.bool (allRk s f most k 0).2.1,.int .i64 (allRk s f most k 0).2.2])∧(allRk s f most k 0).1.length=20)∧Grows w w':=by
 obtain ⟨R,hR⟩:∃ R,allRk s f most k 0=R:=⟨_,rfl⟩
 rw [hR]
 have hB:∀ n,ovN most n=false→n+1≤most.toNat+1:=fun n h=>by
  unfold ovN at h
  rw [decide_eq_true hm,Bool.true_and,decide_eq_false_iff_not] at h
  omega
 obtain ⟨B,hBe⟩:∃ z,most.toNat+1=z:=⟨_,rfl⟩
 rw [hBe] at hB
 have hB9:B≤900000:=by omega
 have HR:=Lib.hid hR
 have HB:=Lib.hid hB
 have HND:=Lib.hid hnd
 have HFZ:=Lib.hid hfz
 have HA:=Lib.hid hA
 have HRB:=Lib.hid hrb
 have irb:rb < w.heap.size:=Blk.inHeap hrb (by simp)
 have hz0:(spC spZero).size=20:=by rw [spC_size];rfl
 clear hR hB hnd hfz hA hrb hBe
 go_enter Tryz.func13,Tryz.ntmps13
 go_wp2_with fail
 have hL:=(((LaidAt.start w).alloc (spC spZero) 35).alloc #[.string (tx s),.int .i64 0,.int .i64 most] 82).alloc (spC spZero) 35
 generalize (((w.alloc (Obj.cells (spC spZero) 35)).alloc (Obj.cells #[.string (tx s),.int .i64 0,.int .i64 most] 82)).alloc (Obj.cells (spC spZero) 35))=w1 at *
 obtain ⟨bN,hbN⟩:∃ z,z=w.heap.size+1+1:=⟨_,rfl⟩
 obtain ⟨sb,hsb⟩:∃ z,z=w.heap.size+1:=⟨_,rfl⟩
 obtain ⟨b8,hb8⟩:∃ z,z=w.heap.size:=⟨_,rfl⟩
 have HG1:=Lib.hid hL.grows
 have HB8:Hid (blk w1 b8=spC spZero):=Lib.hid (by rw [hb8];exact hL.blk 0 _ rfl)
 have HSB1:Hid (blk w1 sb=daC s 0 most):=Lib.hid (by rw [hsb];exact hL.blk 1 _ rfl)
 have HBN1:Hid (blk w1 bN=spC (fillN 0)):=Lib.hid (by rw [hbN];exact hL.blk 2 _ rfl)
 have hz1:w1.heap.size=w.heap.size+3:=hL.size
 have HNE:Hid (w.heap.size≤sb∧w.heap.size≤bN∧w.heap.size≤b8∧sb≠bN∧sb≠b8∧bN≠b8∧sb < w1.heap.size∧bN < w1.heap.size∧b8 < w1.heap.size):=Lib.hid (by omega)
 have hrs:rb≠sb∧rb≠bN∧rb≠b8:=by omega
 rw [← hbN,← hsb,← hb8]
 clear hL hz1 hbN hsb hb8
 go_loopg [13] 10 (fun q v13 wr=>∃ i:Nat,q+i=10∧v13=.int .i64 i∧blk wr bN=spC (fillN i)∧Chg (fun b=>b=bN) w1 wr)
 case atStart=>exact ⟨0,by omega,rfl,HBN1.out,Chg.refl _ _⟩
 case round =>
  obtain ⟨i,hq,rfl,hb,hc⟩:=hrel
  have HB9:=Lib.hid hb
  have HC:=Lib.hid hc
  have hi10:i≤10:=by omega
  have hl:=fillN_len i hi10
  have hz:0 < (spC (fillN i)).size:=by rw [spC_size,hl];decide
  have ig:InHeap bN wr:=Blk.inHeap hb hz
  have hfr:∀ k,wr.frozen? ⟨bN,k,none⟩=false:=fun k=>Blk.free hb hz k
  by_cases hi:i < 10
  ·have d0:=(Blk.cell hb hz (i*2)).trans (spC_get (by omega))
   have d1:=(Blk.cell hb hz (i*2+1)).trans (spC_get (by omega))
   have hii:(i:Int) < 10:=by omega
   have hn:=fillN_next hi
   have HN:=Lib.hid hn
   have HL:=Lib.hid hl
   clear hb hc hz hl hn hi10
   generalize (fillN i).getD (i*2) 0=e0 at d0
   generalize (fillN i).getD (i*2+1) 0=e1 at d1
   go_wp2_with fail
   go_roundg (gk - 1)
   case measure=>omega
   case rel=>exact ⟨i+1,by omega,by simp,by rw [← HN.out];exact sp_put HB9.out HL.out _ _,HC.out.trans (sp_chg _ _ _ _ _)⟩
  ·have hii:¬ (i:Int) < 10:=by omega
   have hin:decide (i < 10)=false:=decide_eq_false hi
   have hI:i=10:=by omega
   have hf:fillN i=spNone:=by rw [hI];decide
   rw [hf] at hb hz
   have HBNf:=Lib.hid hb
   have HB8f:Hid (blk wr b8=spC spZero):=Lib.hid ((chg_blk hc HNE.out.2.2.2.2.2.2.2.2 (fun e=>HNE.out.2.2.2.2.2.1 e.symm)).trans HB8.out)
   have HSBf:Hid (blk wr sb=daC s 0 most):=Lib.hid ((chg_blk hc HNE.out.2.2.2.2.2.2.1 HNE.out.2.2.2.1).trans HSB1.out)
   have HGf:Hid (Grows w wr):=Lib.hid (Chg.grows (n:=0) HG1.out hc fun b e=>by have:=HNE.out.2.1;omega)
   obtain ⟨wf,hwf⟩:∃ z,z=wr:=⟨_,rfl⟩
   subst hwf
   clear hI hf hl hz hb hi10 hq hc HB9 HC hfr ig HB8 HSB1 HBN1
   go_wp2_with fail
   go_loopg [14] (s.length+1 - k.toNat) (fun q v14 wr=>∃ (a:Int) (n:Nat),v14=.int .i64 a∧q=s.length+1 - a.toNat∧I64 a∧allRk s f most a n=R∧n≤B∧blk wr sb=daC s n most∧blk wr bN=spC spNone∧blk wr b8=spC spZero∧Grows w wr)
   case atStart=>exact ⟨k,0,rfl,rfl,hk,HR.out,Nat.zero_le _,HSBf.out,HBNf.out,HB8f.out,HGf.out⟩
   case round =>
    obtain ⟨a,n,rfl,hq,hia,hP,hn,hsb,hbN,hb8,hG⟩:=hrel
    have hia1:=hia.1
    have hia2:=hia.2
    have HQ:=Lib.hid hq
    have HP:=Lib.hid hP
    obtain ⟨wx,hwx⟩:∃ z,z=wr:=⟨_,rfl⟩
    subst hwx
    have HSB:=Lib.hid hsb
    have HBN:=Lib.hid hbN
    have HB8:=Lib.hid hb8
    have HG:=Lib.hid hG
    have hover:=over_anyD wx sb s n most hsb
    obtain ⟨O,hO⟩:∃ O,ovN most n=O:=⟨_,rfl⟩
    rw [hO] at hover
    have HO:=Lib.hid hO
    clear hq hP hsb hbN hb8 hG hO hia
    go_upto_region 8 with fail
    go_cut [42] (fun v42 wz=>v42=.bool ((decide (a≤(s.length:Int)) && decide (0≤a)) && !O)∧Grows wx wz)
    case first =>
     by_cases h1:a≤(s.length:Int)
     ·by_cases h2:0≤a
      ·have HB0:Hid (((decide (a≤(s.length:Int)) && decide (0≤a)) && !O)=!O):=Lib.hid (by simp [h1,h2])
       go_wp2_with fail
       (with_reducible refine hover.mono ?_)
       rintro e9 w3 ⟨rfl,hg3⟩
       go_wp2_with fail
       go_meet
       exact ⟨by rw [HB0.out],hg3⟩
      ·have h2b:decide (0≤a)=false:=decide_eq_false h2
       have HB0:Hid (((decide (a≤(s.length:Int)) && decide (0≤a)) && !O)=false):=Lib.hid (by simp [h2])
       go_wp2_with fail
       go_meet
       exact ⟨by rw [HB0.out],Grows.refl _⟩
     ·have h1b:decide (a≤(s.length:Int))=false:=decide_eq_false h1
      have HB0:Hid (((decide (a≤(s.length:Int)) && decide (0≤a)) && !O)=false):=Lib.hid (by simp [h1])
      go_wp2_with fail
      go_meet
      exact ⟨by rw [HB0.out],Grows.refl _⟩
    case rest =>
    obtain ⟨rfl,hg42⟩:=hcut
    obtain ⟨wy,hwy⟩:∃ z,z=wc:=⟨_,rfl⟩
    subst hwy
    have HSB2:=Lib.hid (blkG HSB.out (by simp [daC]) hg42)
    have HBN2:=Lib.hid (blkG HBN.out (by rw [spC_size];decide) hg42)
    have HB82:=Lib.hid (blkG HB8.out (by omega) hg42)
    have HG2:=Lib.hid (HG.out.trans hg42)
    clear hover hg42 HSB HBN HB8 HG
    by_cases hT:((decide (a≤(s.length:Int)) && decide (0≤a)) && !O)=true
    ·simp only [Bool.and_eq_true,decide_eq_true_eq,Bool.not_eq_true'] at hT
     obtain ⟨⟨ha1,ha2⟩,hOf⟩:=hT
     subst hOf
     obtain ⟨an,rfl⟩:∃ an:Nat,a=an:=⟨a.toNat,by omega⟩
     have ha3:an≤s.length:=by omega
     have hst:=allRk_step (f:=f) ha3 HO.out
     rw [HP.out] at hst
     have hTt:((decide ((an:Int)≤(s.length:Int)) && decide ((0:Int)≤(an:Int))) && !false)=true:=by simp [ha3]
     rw [hTt]
     obtain ⟨N,hN⟩:∃ z,rowR10 s most f an spNone n=z:=⟨_,rfl⟩
     rw [hN] at hst
     have hfr0:FrAt (fun b=>b≠sb) wy A cap f:=(HA.out.mono (ok2:=fun b=>b≠sb) fun b hb _ e=>by have:=HNE.out.1;omega).grows HG2.out
     have hcall:=fun m:More=>row_anyD hs HB.out hB9 f HND.out HFZ.out A cap an n spNone (more wy m) (hfr0.grows ⟨m,rfl⟩) ha3 (spIn_none _) (blkG HSB2.out (by simp [daC]) ⟨m,rfl⟩) hn
     have hin:=row_in (s:=s) (most:=most) f an spNone n HND.out ha3 (spIn_none _)
     have htop:=row_top (s:=s) HB.out f an spNone n hn
     rw [hN] at hcall hin htop
     have r0:wy.cell? ⟨rb,0,none⟩=some (.slice A f.len cap):=Blk.cell (blkG HRB.out (by simp) HG2.out) (by simp) 0
     have irb2:InHeap rb wy:=World.block_lt_of_cell? _ _ r0
     have hbN:=HBN2.out
     have ibN:InHeap bN wy:=Blk.inHeap hbN (by rw [spC_size];decide)
     have hszN:(spC spNone).size=20:=by rw [spC_size];rfl
     have hspN:span (spC spNone) 0 20=spC spNone:=span_all hszN
     have HCALL:=Lib.hid hcall
     have HST:=Lib.hid hst
     have HIN:=Lib.hid hin
     have HTOP:=Lib.hid htop
     clear hst hfr0 hcall hin htop hN HP hTt ha1 ha2
     go_upto_region 10 with fail
     refine region_tail 7 (by kernel_rfl) (by kernel_rfl) ?_
     simp only [List.take_succ_cons,List.take_zero,List.drop_succ_cons,List.drop_zero]
     repeat (go_big_quiet_step (fail))
     refine wpQuiet_nil ?_
     intro _ hw'
     obtain ⟨m2,rfl⟩:=hw'
     go_wp2_with fail
     (with_reducible refine (HCALL.out m2).mono ?_)
     rintro e9 w4 hpost
     have hpost:=hpost.weak.late (W:=wy) ⟨m2,rfl⟩
     obtain ⟨v,rfl,hS,hsb4,hc4⟩:=hpost
     obtain ⟨L1,hL1⟩:∃ z,N.1=z:=⟨_,rfl⟩
     obtain ⟨n1,hn1⟩:∃ z,N.2=z:=⟨_,rfl⟩
     rw [hL1] at hS HST HIN
     rw [hn1] at hsb4 HST HTOP
     have HSB4:=Lib.hid hsb4
     have HBN4:Hid (blk w4 bN=spC spNone):=Lib.hid ((chg_blk hc4 ibN (fun e=>HNE.out.2.2.2.1 e.symm)).trans HBN2.out)
     have HB84:Hid (blk w4 b8=spC spZero):=Lib.hid ((chg_blk hc4 (Blk.inHeap HB82.out (by omega)) (fun e=>HNE.out.2.2.2.2.1 e.symm)).trans HB82.out)
     have HG4:Hid (Grows w w4):=Lib.hid (Chg.grows (n:=0) HG2.out hc4 fun b e=>by have:=HNE.out.1;omega)
     have hq2:gk≠0→gk - 1=s.length+1 - ((an+1:Nat):Int).toNat:=fun _=>by have:=HQ.out;omega
     have HQ2:=Lib.hid hq2
     have hgk0:0 < gk:=by have:=HQ.out;omega
     have hover:=over_anyD w4 sb s n1 most hsb4
     obtain ⟨O1,hO1⟩:∃ O,ovN most n1=O:=⟨_,rfl⟩
     rw [hO1] at hover HST
     have HO1:=Lib.hid hO1
     have HS:=Lib.hid hS
     obtain ⟨A1,cap1,xs1,rfl,hsl1,-⟩:=hS
     have h63:=hsl1.cap63
     have hL9:L1.length≤cap1:=hsl1.le
     clear hsb4 hc4 hO1 hsl1 hL1 hn1 HCALL hbN hspN r0 irb2 ibN HSB2 HBN2 HB82 HG2 hq2
     cases L1 with
     | nil =>
      have hst:=HST.out
      dsimp only at hst
      have HST2:=Lib.hid hst
      have hl0:(([]:List St).length:Int)=0:=rfl
      clear hst HST hover
      go_wp2_with fail
      go_roundg (gk - 1)
      case measure=>omega
      case rel=>exact ⟨((an+1:Nat):Int),n1,by go_num,HQ2.out (by omega),by unfold I64;omega,HST2.out.symm,HTOP.out,HSB4.out,HBN4.out,HB84.out,HG4.out⟩
     | cons t l =>
      have hst:=HST.out
      dsimp only at hst
      have HST2:=Lib.hid hst
      have q1:((l.length:Int)+1 == 0)=false:=by rw [beq_eq_false_iff_ne];omega
      clear hst HST
      go_wp2_with fail
      (with_reducible refine hover.mono ?_)
      rintro e9 w5 ⟨rfl,hg5⟩
      have HSB5:=Lib.hid (blkG HSB4.out (by simp [daC]) hg5)
      have HBN5:=Lib.hid (blkG HBN4.out (by omega) hg5)
      have HB85:=Lib.hid (blkG HB84.out (by omega) hg5)
      have HG5:=Lib.hid (HG4.out.trans hg5)
      have HS5:=Lib.hid (HS.out.grows hg5)
      clear hover hg5 HS HSB4 HBN4 HB84 HG4
      cases O1 with
      | true =>
       have hst:=HST2.out
       rw [if_pos rfl] at hst
       have HST3:=Lib.hid hst
       clear hst HST2
       go_wp2_with fail
       go_roundg (gk - 1)
       case measure=>omega
       case rel=>exact ⟨((an+1:Nat):Int),n1,by go_num,HQ2.out (by omega),by unfold I64;omega,HST3.out.symm,HTOP.out,HSB5.out,HBN5.out,HB85.out,HG5.out⟩
      | false =>
       have hst:=HST2.out
       rw [if_neg (by decide)] at hst
       subst hst
       clear HST2 HQ HQ2 hgk0
       have hss:SsAt (fun x=>x < w5.heap.size) w5 (.slice A1 (t::l).length cap1) (t::l):=HS5.out.mono fun x hx _=>hx
       obtain ⟨b2,o2,cp2,e2,ib2,hok2,hle2,-⟩:=hss.form (by simp)
       injection e2 with e2 e3 e4
       subst e2
       subst e4
       clear e3
       obtain ⟨At,ct,hN⟩:=hss.nth (a:=[]) rfl
       rw [show o2+([]:List St).length*22=o2 by simp] at hN
       have hld:loadPart Tryz.prog w5 87 b2 o2 22=.ok (.agg (stC t.1 t.2.1 (.slice At t.2.2.len ct))) w5:=st_load hN.len hN.all
       have hszt:((stC t.1 t.2.1 (.slice At t.2.2.len ct))).size=22:=stC_size hN.len
       have hszz:((stC 0 spZero (.slice none 0 0))).size=22:=stC_size rfl
       have hone:OneCells (stC t.1 t.2.1 (.slice At t.2.2.len ct)):=stC_one rfl
       have hovt:over (stC 0 spZero (.slice none 0 0)) 0 (stC t.1 t.2.1 (.slice At t.2.2.len ct))=(stC t.1 t.2.1 (.slice At t.2.2.len ct)):=over_all (by omega)
       have HNT:=Lib.hid hN
       have HSS5:=Lib.hid hss
       have hcap9:l.length+1≤cap1:=hL9
       clear hss hN HS5
       go_upto_region 13 with fail
       have hg6:Grows w5 (w5.alloc (.cells (stC t.1 t.2.1 (.slice At t.2.2.len ct)) 87)):=(Grows.refl _).alloc _
       have hb6:blk (w5.alloc (.cells (stC t.1 t.2.1 (.slice At t.2.2.len ct)) 87)) w5.heap.size=(stC t.1 t.2.1 (.slice At t.2.2.len ct)):=blk_alloc_at _ _ _ _ rfl
       have hz6:(w5.alloc (.cells (stC t.1 t.2.1 (.slice At t.2.2.len ct)) 87)).heap.size=w5.heap.size+1:=by simp
       obtain ⟨bB,hbB⟩:∃ z,z=w5.heap.size:=⟨_,rfl⟩
       rw [← hbB] at hb6 hz6 ⊢
       generalize w5.alloc (.cells (stC t.1 t.2.1 (.slice At t.2.2.len ct)) 87)=w6 at *
       have HB6:=Lib.hid hb6
       have HG6:=Lib.hid hg6
       have HWT:Hid (WyAt (fun x=>x < bB) w6 At ct t.2.2):=Lib.hid ((HNT.out.wy.mono fun x hx _=>by omega).grows hg6)
       have HSS6:Hid (SsAt (fun x=>x < bB) w6 (.slice (some ⟨b2,o2,none⟩) (t::l).length cap1) (t::l)):=Lib.hid ((HSS5.out.mono fun x hx _=>by omega).grows hg6)
       have HSB6:=Lib.hid (blkG HSB5.out (by simp [daC]) hg6)
       have HB86:=Lib.hid (blkG HB85.out (by omega) hg6)
       have HG66:=Lib.hid (HG5.out.trans hg6)
       have hlt:b2 < bB:=by rw [hbB];exact ib2
       have hltx:Hid (sb < bB∧b8 < bB∧w.heap.size≤bB∧bB < w6.heap.size):=Lib.hid (by have h1:sb < w5.heap.size:=Blk.inHeap HSB5.out (by simp [daC]);have h2:b8 < w5.heap.size:=Blk.inHeap HB85.out (by omega);have:=HG5.out.below.size;omega)
       have HTL:=Lib.hid HNT.out.len
       clear hld hszt hone hovt hg6 hb6 hz6 hbB HNT HSS5 HSB5 HB85 HBN5 HG5 ib2 hok2
       go_wp2_with fail
       go_loopg [17] l.length (fun q v17 wr=>∃ (i:Nat) (b:St) (a1 c1:List St) (Ab:Option Addr) (cb:Nat),q+i=l.length+1∧v17=.int .i64 i∧t::l=a1++c1∧a1.length=i∧bestS t l=bestS b c1∧b.2.1.length=20∧WyAt (fun x=>x < bB) w6 Ab cb b.2.2∧blk wr bB=(stC b.1 b.2.1 (.slice Ab b.2.2.len cb))∧Chg (fun x=>x=bB) w6 wr)
       case atStart=>exact ⟨1,t,[t],l,At,ct,by omega,rfl,rfl,rfl,rfl,HTL.out,HWT.out,HB6.out,Chg.refl _ _⟩
       case round =>
        obtain ⟨i,b,a1,c1,Ab,cb,hq,rfl,hL,hai,hbe,hbl,hwb,hbb,hcr⟩:=hrel
        have HQ:=Lib.hid hq
        have HBE:=Lib.hid hbe
        have HWB:=Lib.hid hwb
        have HBB:=Lib.hid hbb
        have HCR:=Lib.hid hcr
        have hszb:((stC b.1 b.2.1 (.slice Ab b.2.2.len cb))).size=22:=stC_size hbl
        obtain ⟨wz,hwz⟩:∃ z,z=wr:=⟨_,rfl⟩
        subst hwz
        have HGz:Hid (Grows w wz):=Lib.hid (Chg.grows (n:=0) HG66.out hcr fun x e=>by have:=hltx.out;omega)
        cases c1 with
        | nil =>
         have hil:i=l.length+1:=by have:=congrArg List.length hL;simp at this;omega
         subst hil
         have hbe2:bestS t l=b:=hbe
         have i1:¬ ((l.length+1:Nat):Int) < (l.length:Int)+1:=by omega
         have p0:wz.cell? ⟨bB,0,none⟩=some (.int .i64 b.1):=(Blk.cell hbb (by omega) 0).trans stC_0
         have p1:wz.cell? ⟨bB,1,none⟩=some (.int .i64 (b.2.1.getD 0 0)):=(Blk.cell hbb (by omega) 1).trans ((stC_sp (j:=0) hbl (by decide)).trans (spC_get (by omega)))
         have p2:wz.cell? ⟨bB,2,none⟩=some (.int .i64 (b.2.1.getD 1 0)):=(Blk.cell hbb (by omega) 2).trans ((stC_sp (j:=1) hbl (by decide)).trans (spC_get (by omega)))
         have f1:∀ j,wz.frozen? ⟨bB,j,none⟩=false:=fun j=>Blk.free hbb (by omega) j
         have ibB:InHeap bB wz:=Blk.inHeap hbb (by omega)
         have hset:blk ((wz.setCell ⟨bB,1,none⟩ (.int .i64 an)).setCell ⟨bB,2,none⟩ (.int .i64 b.1)) bB=stC b.1 (spSet b.2.1 0 an b.1) (.slice Ab b.2.2.len cb):=by
          have h1:=pa_put hbb (by omega) 1 (.int .i64 an)
          rw [pa_put h1 (by rw [Array.size_setIfInBounds];omega)]
          exact stC_set2 _ _ _ _ _ hbl
         have hcs:Chg (fun x=>x=bB) wz ((wz.setCell ⟨bB,1,none⟩ (.int .i64 an)).setCell ⟨bB,2,none⟩ (.int .i64 b.1)):=(chg_cell _ _ _ _).trans (chg_cell _ _ _ _)
         have HSET:=Lib.hid hset
         have HCS:=Lib.hid hcs
         clear hq hL hai hbe hwb hbb hcr hset hcs
         go_upto_region 19 with fail
         generalize (wz.setCell ⟨bB,1,none⟩ (.int .i64 an)).setCell ⟨bB,2,none⟩ (.int .i64 b.1)=w7 at *
         obtain ⟨g',hg'⟩:∃ z,spSet b.2.1 0 an b.1=z:=⟨_,rfl⟩
         have hgl':g'.length=20:=by rw [← hg',spSet_len];exact hbl
         have hset:=HSET.out
         have hcs:=HCR.out.trans HCS.out
         rw [hg'] at hset
         have hsz7:(stC b.1 g' (.slice Ab b.2.2.len cb)).size=22:=stC_size hgl'
         have hsp7:=stC_span b.1 g' (.slice Ab b.2.2.len cb) hgl'
         have hszg:(spC g').size=20:=by rw [spC_size];exact hgl'
         have hb8:blk w7 b8=spC spZero:=(chg_blk hcs (Blk.inHeap HB86.out (by omega)) (fun e=>by have:=hltx.out;omega)).trans HB86.out
         have hsb:blk w7 sb=daC s n1 most:=(chg_blk hcs (Blk.inHeap HSB6.out (by simp [daC])) (fun e=>by have:=hltx.out;omega)).trans HSB6.out
         have hG7:Grows w w7:=Chg.grows (n:=0) HG66.out hcs fun x e=>by have:=hltx.out;omega
         have c1:w7.cell? ⟨sb,1,none⟩=some (.int .i64 n1):=Blk.cell hsb (by simp [daC]) 1
         have is7:InHeap sb w7:=Blk.inHeap hsb (by simp [daC])
         have i8:InHeap b8 w7:=Blk.inHeap hb8 (by omega)
         have hov:over (spC spZero) 0 (spC g')=spC g':=over_all (by omega)
         have hF:blk (setBlk w7 b8 (spC g')) b8=spC g':=Blk.get _ hb8 (by omega)
         have hcF:Chg (fun x=>x=b8) w7 (setBlk w7 b8 (spC g')):=chg_setBlkM (K:=fun x=>x=b8) rfl
         have c1F:(setBlk w7 b8 (spC g')).cell? ⟨sb,1,none⟩=some (.int .i64 n1):=cellC c1 hcF HNE.out.2.2.2.2.1
         have isF:InHeap sb (setBlk w7 b8 (spC g')):=Blk.inHeap ((chg_blk hcF is7 HNE.out.2.2.2.2.1).trans hsb) (by simp [daC])
         have hGF:Grows w (setBlk w7 b8 (spC g')):=Chg.grows (n:=0) hG7 hcF fun b e=>by have:=HNE.out.2.2.1;omega
         have HF:=Lib.hid hF
         have HGF:=Lib.hid hGF
         have HGE:=Lib.hid (And.intro hg' hgl')
         have HBE2:=Lib.hid hbe2
         clear hcF hGF hG7 hsb hF hbe2 hg' p0 p1 p2 f1 ibB
         go_region_law (fail)
         all_goals (
          go_wp2_with fail
          rw [HBE2.out,HGE.out.1]
          exact bodyPost_ret (results_sp4 8 9 10 rfl rfl rfl rfl (blkG HF.out (by omega) (by repeat' first | exact Grows.refl _ | refine Grows.drewN ?_ _ | refine Grows.drew ?_)) hszg) rfl ⟨⟨rfl,HGE.out.2⟩,HGF.out.trans (by repeat' first | exact Grows.refl _ | refine Grows.drewN ?_ _ | refine Grows.drew ?_)⟩)
        | cons u c1 =>
         have hll:=congrArg List.length hL
         simp only [List.length_cons,List.length_append] at hll
         have hil:i < l.length+1:=by omega
         have i1:(i:Int) < (l.length:Int)+1:=by omega
         have hss:SsAt (fun x=>x < bB) wz (.slice (some ⟨b2,o2,none⟩) (t::l).length cap1) (t::l):=HSS6.out.chg hcr fun x _ hx e=>by omega
         obtain ⟨Au,cu,hU6⟩:=HSS6.out.nth hL
         rw [hai] at hU6
         have hU:=hU6.chg hcr (fun e=>by omega) (fun x _ hx (e:x=bB)=>by have:=hx.1;omega)
         have hwu:WyAt (fun x=>x < bB) wz Au cu u.2.2:=hU.wy.mono fun x _ hx=>hx.1
         have hwb2:WyAt (fun x=>x < bB) wz Ab cb b.2.2:=hwb.chg hcr fun x _ hx e=>by omega
         have hbet:=fun m:More=>betterD_any u.2.2 b.2.2 (fun x=>x < bB) Au cu Ab cb (more wz m) (hwu.grows ⟨m,rfl⟩) (hwb2.grows ⟨m,rfl⟩) hwu.sm hwb2.sm
         have d0:=hU.c0
         have d21:=hU.c21
         have p0:wz.cell? ⟨bB,0,none⟩=some (.int .i64 b.1):=(Blk.cell hbb (by omega) 0).trans stC_0
         have p21:wz.cell? ⟨bB,21,none⟩=some (.slice Ab b.2.2.len cb):=(Blk.cell hbb (by omega) 21).trans (stC_21 hbl)
         have ib2:InHeap b2 wz:=hU.inh
         have ibB:InHeap bB wz:=Blk.inHeap hbb (by omega)
         obtain ⟨D,hD⟩:∃ z,betterV u.2.2 b.2.2=z:=⟨_,rfl⟩
         rw [hD] at hbet
         have hbetS:betS u b=(decide (b.1 < u.1) || (decide (u.1=b.1) && decide (0 < D))):=by rw [← hD];rfl
         obtain ⟨wu,hwu9⟩:∃ z,z=u.1:=⟨_,rfl⟩
         obtain ⟨wb,hwb9⟩:∃ z,z=b.1:=⟨_,rfl⟩
         rw [← hwu9,← hwb9] at hbetS
         rw [← hwu9] at d0
         rw [← hwb9] at p0
         have HUU:=Lib.hid hU
         have HWU:=Lib.hid (hU6.wy.mono (ok2:=fun x=>x < bB) fun x _ hx=>hx.1)
         have HL:=Lib.hid (And.intro hL hai)
         have HBS:=Lib.hid hbetS
         have HWE:=Lib.hid (And.intro hwu9 hwb9)
         clear hq hL hai hbe hwb hbb hcr hll hss hU hU6 hwu hwb2 hbetS hD hwu9 hwb9
         go_upto_region 16 with fail
         go_cut [97] (fun v97 wv=>v97=.bool (betS u b)∧Grows wz wv)
         case first =>
          by_cases h1:wb < wu
          ·have h1b:decide (wb < wu)=true:=decide_eq_true h1
           have h1i:(wb:Int) < (wu:Int):=by omega
           have HV:Hid (betS u b=true):=Lib.hid (by rw [HBS.out,h1b];rfl)
           refine region_grows (by kernel_rfl) (by kernel_rfl) ?_
           repeat (go_big_quiet_step (fail))
           refine wpQuiet_nil ?_
           intro _ hw'
           obtain ⟨m3,rfl⟩:=hw'
           go_wp2_with fail
           go_meet
           exact ⟨by rw [HV.out],⟨m3,rfl⟩⟩
          ·have h1b:decide (wb < wu)=false:=decide_eq_false h1
           have h1i:¬ (wb:Int) < (wu:Int):=by omega
           by_cases h2:wu=wb
           ·have h2b:((wu:Int) == (wb:Int))=true:=by rw [h2];exact beq_self_eq_true _
            have HV:Hid (betS u b=decide (0 < D)):=Lib.hid (by rw [HBS.out,h1b,decide_eq_true h2];rfl)
            clear h2
            refine region_grows (by kernel_rfl) (by kernel_rfl) ?_
            repeat (go_big_quiet_step (first | (go_at_call 32;exact calls_grows (hbet _))))
            refine wpQuiet_nil ?_
            intro _ hw'
            obtain ⟨m3,rfl⟩:=hw'
            go_wp2_with fail
            go_meet
            exact ⟨by rw [HV.out],⟨m3,rfl⟩⟩
           ·have h2b:((wu:Int) == (wb:Int))=false:=by rw [beq_eq_false_iff_ne];omega
            have HV:Hid (betS u b=false):=Lib.hid (by rw [HBS.out,h1b,decide_eq_false h2];rfl)
            refine region_grows (by kernel_rfl) (by kernel_rfl) ?_
            repeat (go_big_quiet_step (fail))
            refine wpQuiet_nil ?_
            intro _ hw'
            obtain ⟨m3,rfl⟩:=hw'
            go_wp2_with fail
            go_meet
            exact ⟨by rw [HV.out],⟨m3,rfl⟩⟩
         case rest =>
         obtain ⟨rfl,hgv⟩:=hcut
         obtain ⟨wv,hwv⟩:∃ z,z=wc:=⟨_,rfl⟩
         subst hwv
         have HBBv:=Lib.hid (blkG HBB.out (by omega) hgv)
         have HCRv:=Lib.hid (HCR.out.trans (Chg.of_grows hgv))
         have HUv:=Lib.hid (HUU.out.grows hgv)
         clear hbet d0 d21 p0 p21 ib2 ibB hgv
         cases hb9:betS u b with
         | true =>
          have hbs:bestS t l=bestS u c1:=by rw [HBE.out];simp only [bestS,hb9,if_true]
          have HBS2:=Lib.hid hbs
          have hld:loadPart Tryz.prog wv 87 b2 (o2+i*22) 22=.ok (.agg (stC u.1 u.2.1 (.slice Au u.2.2.len cu))) wv:=st_load HUv.out.len HUv.out.all
          have hszu:((stC u.1 u.2.1 (.slice Au u.2.2.len cu))).size=22:=stC_size HUv.out.len
          have hone:OneCells (stC u.1 u.2.1 (.slice Au u.2.2.len cu)):=stC_one rfl
          have hovu:over (stC b.1 b.2.1 (.slice Ab b.2.2.len cb)) 0 (stC u.1 u.2.1 (.slice Au u.2.2.len cu))=(stC u.1 u.2.1 (.slice Au u.2.2.len cu)):=over_all (by omega)
          have hbbv:=HBBv.out
          have ib2:InHeap b2 wv:=HUv.out.inh
          have ibB:InHeap bB wv:=Blk.inHeap hbbv (by omega)
          have HF:Hid (blk (setBlk wv bB (stC u.1 u.2.1 (.slice Au u.2.2.len cu))) bB=(stC u.1 u.2.1 (.slice Au u.2.2.len cu))):=Lib.hid (Blk.get _ hbbv (by omega))
          have HCF:Hid (Chg (fun x=>x=bB) wv (setBlk wv bB (stC u.1 u.2.1 (.slice Au u.2.2.len cu)))):=Lib.hid (chg_setBlkM (K:=fun x=>x=bB) rfl)
          have HUL:=Lib.hid HUv.out.len
          clear hbs
          go_wp2_with fail
          go_roundg (gk - 1)
          case measure=>have:=HQ.out;omega
          case rel=>exact ⟨i+1,u,a1++[u],c1,Au,cu,by have:=HQ.out;omega,by go_num,by rw [List.append_assoc];exact HL.out.1,by rw [List.length_append,HL.out.2];rfl,HBS2.out,HUL.out,HWU.out,HF.out,HCRv.out.trans HCF.out⟩
         | false =>
          have hbs:bestS t l=bestS b c1:=by rw [HBE.out];simp only [bestS,hb9,Bool.false_eq_true,if_false]
          have HBS2:=Lib.hid hbs
          have HBL:=Lib.hid hbl
          clear hbs
          go_wp2_with fail
          go_roundg (gk - 1)
          case measure=>have:=HQ.out;omega
          case rel=>exact ⟨i+1,b,a1++[u],c1,Ab,cb,by have:=HQ.out;omega,by go_num,by rw [List.append_assoc];exact HL.out.1,by rw [List.length_append,HL.out.2];rfl,HBS2.out,HBL.out,HWB.out,HBBv.out,HCRv.out⟩
    ·have hTf:((decide (a≤(s.length:Int)) && decide (0≤a)) && !O)=false:=by simpa using hT
     have hRe:R=(spZero,false,n):=by
      rw [← HP.out]
      refine allRk_stop fun h=>hT ?_
      rw [← HO.out,h.2.2,decide_eq_true h.1,decide_eq_true h.2.1]
      rfl
     rw [hTf]
     clear hT hTf HP
     subst hRe
     have c1:wy.cell? ⟨sb,1,none⟩=some (.int .i64 n):=Blk.cell HSB2.out (by simp [daC]) 1
     have i1:InHeap sb wy:=Blk.inHeap HSB2.out (by simp [daC])
     have hb8:=HB82.out
     have i8:InHeap b8 wy:=Blk.inHeap hb8 (by omega)
     have hov:=over_zero
     have hspn:span (spC spZero) 0 20=spC spZero:=span_all hz0
     have hsame:setBlk wy b8 (spC spZero)=wy:=Blk.same hb8 (by omega)
     go_upto_region 20 with fail
     go_region_law (fail)
     all_goals (
      go_wp2_with fail
      exact bodyPost_ret (results_sp4 8 9 10 rfl rfl rfl rfl (blkG hb8 (by omega) (by repeat' first | exact Grows.refl _ | refine Grows.drewN ?_ _ | refine Grows.drew ?_)) hz0) rfl ⟨⟨rfl,rfl⟩,HG2.out.trans (by repeat' first | exact Grows.refl _ | refine Grows.drewN ?_ _ | refine Grows.drew ?_)⟩)
end
end Go.Proofs.YtnjagecmhdagkaaGreatDoor
namespace Go.Proofs.YtnjagecmhdagkaaGreatDoor
open Go.RowKit
theorem spent_over {fuel:Int} (h:fuel < 0) (σ:Sg):overB fuel σ=true:=by
 unfold overB
 rw [decide_eq_true_eq]
 omega
theorem refs_same {s:List UInt8} {f:Fr} {k fuel:Int}:(if fuel < ((allRk s f (max fuel 0) k 0).2.2:Int) then (spZero,false,(100:Int)) else ((allRk s f (max fuel 0) k 0).1,(allRk s f (max fuel 0) k 0).2.1,0))=matchR s f true k fuel:=by
 unfold matchR allRk
 by_cases hk:k < 0∨(s.length:Int) < k
 ·rw [if_pos hk,if_pos hk]
  by_cases hf:fuel < 0
  ·rw [if_pos (by simpa using hf),if_pos ⟨rfl,hf⟩]
  ·rw [if_neg (by simpa using hf),if_neg (fun h=>hf h.2)]
 ·rw [if_neg hk,if_neg hk,if_pos rfl]
  by_cases hf:fuel < 0
  ·obtain ⟨m,hm⟩:∃ m,s.length+1 - k.toNat=m+1:=⟨s.length - k.toNat,by omega⟩
   have e:allF s f fuel (s.length+1 - k.toNat) k.toNat ⟨0,none⟩=none:=by
    rw [hm]
    unfold allF
    rw [if_neg (by simp),if_pos (spent_over hf _)]
   rw [e,if_pos (by omega)]
  ·have hm:max fuel 0=fuel:=by omega
   rw [hm]
   have h:=all_eq (s:=s) (f:=f) (fuel:=fuel) (by omega) (s.length+1 - k.toNat) k.toNat 0 (by omega)
   cases hF:allF s f fuel (s.length+1 - k.toNat) k.toNat ⟨0,none⟩ with
   | none =>
    rw [hF] at h
    dsimp only at h ⊢
    rw [if_pos h]
   | some σ =>
    rw [hF] at h
    dsimp only at h ⊢
    rw [if_neg (by omega)]
    cases hb:σ.best with
    | none =>
     rw [hb] at h
     dsimp only at h ⊢
     have h2:=h.2
     injection h2 with h3 h4
     rw [h3,h4]
    | some y =>
     rw [hb] at h
     dsimp only at h ⊢
     have h2:=h.2
     injection h2 with h3 h4
     rw [h3,h4]
attribute [local go_sem ↓] ldSp_eq stSp_eq zeroSp
attribute [local go_sem] loadSp loadSp_if storeSp storeSp_if spC_one
section
variable {s:List UInt8}
end
end Go.Proofs.YtnjagecmhdagkaaGreatDoor
namespace Go.Proofs.YtnjagecmhdagkaaGreatDoor
open Go.RowKit
theorem run_equalIn_array_same2 {P:Program} (w:World) (d:Nat) (t e:TypeId) (n z:Nat) (xs:Array Value) (ht:P.underlying t=some (.array n e)) (hs:∀ w,(sizeOf e).run P w=.ok z w)
  (hp:∀ i,i < n→∃ v,∀ w,(part e xs (i*z)).run P w=.ok v w∧(Op.equalIn d e v v).run P w=.ok true w) :
  (Op.equalIn (d+1) t (.agg xs) (.agg xs)).run P w=.ok true w:=by
 simp only [Op.equalIn,Sem.run_bind,run_underlying ht,Result.andThen_ok,hs]
 rw [Std.Legacy.Range.forIn_eq_forIn_range']
 have hl:∀ i ∈ List.range' [:n].start [:n].size [:n].step,i < n:=by
  intro i hi
  simp [List.mem_range',Std.Legacy.Range.size] at hi
  omega
 generalize List.range' [:n].start [:n].size [:n].step=l at hl
 induction l generalizing w with
 | nil=>simp
 | cons i l ih =>
  obtain ⟨v,hv⟩:=hp i (hl i (by simp))
  simp only [List.forIn_cons,Sem.run_bind,(hv _).1,(hv _).2,Result.andThen_ok,Bool.not_true,Bool.false_eq_true,if_false,Sem.run_pure]
  have:=ih w (fun j hj=>hl j (by simp [hj]))
  simpa using this
theorem eq_two9 (a b c d:Int) (w:World):(Op.equalIn 9999 22 (.agg #[.int .i64 a,.int .i64 b]) (.agg #[.int .i64 c,.int .i64 d])).run Tryz.prog w=.ok (a == c && b == d) w:=by
 have u3:=Tryz.underlying3
 have a3:=Tryz.isAgg3
 have z3:=Tryz.sizeOf3
 have hi:(Tryz.prog.info? 3).isSome=true:=by kernel_rfl
 obtain ⟨i,hi⟩:=Option.isSome_iff_exists.1 hi
 have hc:Tryz.prog.cellsOf 3=1:=by kernel_rfl
 rw [show (9999:Nat)=9998+1 from rfl,run_equalIn_array w 9998 _ _ Tryz.underlying22 hi,hc]
 simp only [show List.range 2=[0,1] from rfl,Op.eqItems]
 go_simp
 by_cases h1:a=c <;> by_cases h2:b=d <;> simp [h1,h2]
theorem eq_spans (g:Spn) (hg:g.length=20) (w:World):(Op.equalIn 10000 35 (spV g) (spV g)).run Tryz.prog w=.ok true w:=by
 refine run_equalIn_array_same2 w 9999 35 22 10 2 (spC g) Tryz.underlying35 (fun w=>Tryz.sizeOf22 w) fun i hi=>⟨.agg #[.int .i64 (g.getD (i*2) 0),.int .i64 (g.getD (i*2+1) 0)],fun w=>⟨?_,?_⟩⟩
 ·have ex:(spC g).extract (i*2) (i*2+2)=#[.int .i64 (g.getD (i*2) 0),.int .i64 (g.getD (i*2+1) 0)]:=by
   have hs:(spC g).size=20:=by rw [spC_size];exact hg
   apply Array.ext_getElem?
   intro j
   rw [Array.getElem?_extract]
   rcases (show j=0∨j=1∨2≤j by omega) with rfl | rfl | hj
   ·rw [if_pos (by omega),Nat.add_zero,spC_get (by omega)];rfl
   ·rw [if_pos (by omega),spC_get (by omega)];rfl
   ·rw [if_neg (by omega),Array.getElem?_eq_none (by simpa using hj)]
  have h1:=Tryz.isAgg22 w
  have h2:=Tryz.sizeOf22 w
  unfold part
  simp only [Sem.run_bind,h1,h2,Result.andThen_ok,if_true,Sem.run_pure]
  rw [ex]
 ·have:=eq_two9 (g.getD (i*2) 0) (g.getD (i*2+1) 0) (g.getD (i*2) 0) (g.getD (i*2+1) 0) w
  rw [this]
  simp
end Go.Proofs.YtnjagecmhdagkaaGreatDoor
namespace Go.Proofs.YtnjagecmhdagkaaGreatDoor
open Go.RowKit
theorem ways_same {p s:List UInt8} {f:Fr} {t:PS} (h:patV p=some (f,t)) {k:Int} (hs:((allRk s f 20000 k 0).2.2:Int)≤20000):matchR s f t.refs k 20000=((allRk s f 20000 k 0).1,(allRk s f 20000 k 0).2.1,0):=by
 cases hr:t.refs with
 | true =>
  have h1:=refs_same (s:=s) (f:=f) (k:=k) (fuel:=20000)
  rw [show max (20000:Int) 0=20000 from rfl,if_neg (by omega)] at h1
  exact h1.symm
 | false =>
  unfold matchR
  by_cases hk:k < 0∨(s.length:Int) < k
  ·rw [if_pos hk]
   unfold allRk
   rw [if_pos hk]
   rfl
  ·rw [if_neg hk]
   unfold allRk at hs ⊢
   rw [if_neg hk] at hs ⊢
   have h1:=allR_plain (by omega) (patV_noRf h hr) (s.length+1 - k.toNat) k.toNat 0 (by omega) hs
   simp only [Bool.false_eq_true,if_false]
   cases hp:plainV s f (s.length+1 - k.toNat) k.toNat with
   | none =>
    rw [hp] at h1
    dsimp only at h1 ⊢
    injection h1 with h2 h3
    rw [h2,h3]
   | some g =>
    rw [hp] at h1
    dsimp only at h1 ⊢
    injection h1 with h2 h3
    rw [h2,h3]
theorem heavy_10 (p s:List UInt8) (w:World):Calls Tryz.prog 7 #[.string (tx p),.string (tx s),.int .i64 10] w fun e w'=>HeavyPost p s 10 e∧Grows w w':=heavy_any p s 10 w (by omega)
attribute [local go_sem ↓] ldSp_eq stSp_eq zeroSp
attribute [local go_sem] loadSp loadSp_if storeSp storeSp_if spC_one
set_option maxRecDepth 100000 in
set_option maxHeartbeats 8000000 in
theorem match_ways (p s:List UInt8) (k:Int) (w:World) (hw:Sane w) (htz:TzAt w) (hk:I64 k) :
  Calls Tryz.prog 5 #[.string (tx p),.string (tx s),.int .i64 k] w fun e w'=>e=.returned (.bool true)∧Grows w w':=by
 have HW:=Lib.hid hw
 have HTZ:=Lib.hid htz
 have HK:=Lib.hid hk
 clear hw htz hk
 go_enter Tryz.func5,Tryz.ntmps5
 have hcall:=heavy_10 p s w
 go_wp2_with fail
 (with_reducible refine hcall.mono ?_)
 rintro e9 w1 ⟨⟨H,hH,rfl⟩,hg1⟩
 have HG1:=Lib.hid hg1
 clear hcall hg1
 cases H with
 | true =>
  go_wp2_with fail
  go_ret
  exact ⟨rfl,HG1.out⟩
 | false =>
 obtain ⟨hp,hs⟩:=hH rfl
 clear hH
 by_cases hf:40 < p.length
 ·have hfb:decide (40 < p.length)=true:=decide_eq_true hf
  have hfi:(40:Int) < (p.length:Int):=by omega
  go_wp2_with fail
  go_ret
  exact ⟨rfl,HG1.out⟩
 have hfb:decide (40 < p.length)=false:=decide_eq_false hf
 have hfi:¬ (40:Int) < (p.length:Int):=by omega
 have hdo:∀ W,Grows w W→Calls Tryz.prog 10 #[] W fun e w'=>e=.returned (.bool true)∧Grows W w':=fun W h=>does_any W (HW.out.grows h) (HTZ.out.grows h)
 have HDO:=Lib.hid hdo
 have hcall:=bre_parse p w1 (by omega) (HW.out.grows HG1.out)
 clear hdo
 cases hY:patV p with
 | none =>
  rw [hY] at hcall
  have HD:=Lib.hid (doc_none hY)
  clear hY
  go_wp2_with fail
  (with_reducible refine hcall.mono ?_)
  rintro e9 w2 ⟨rfl,hg2⟩
  have hdoc:=refParse_pat p w2 (by omega)
  rw [HD.out] at hdoc
  have HG2:=Lib.hid (HG1.out.trans hg2)
  clear hcall hg2 hf hfb hfi
  go_wp2_with fail
  (with_reducible refine hdoc.mono ?_)
  rintro e9 w3 ⟨rfl,hg3⟩
  have HG3:=Lib.hid (HG2.out.trans hg3)
  clear hdoc hg3
  go_wp2_with fail
  (with_reducible refine (HDO.out _ HG3.out).mono ?_)
  rintro e9 w4 ⟨rfl,hg4⟩
  go_wp2_with fail
  go_ret
  exact ⟨rfl,HG3.out.trans hg4⟩
 | some y =>
  rw [hY] at hcall
  obtain ⟨r,hd,-,-,hdr⟩:=doc_some hY
  have hnd:=patV_nd hY
  obtain ⟨f,t⟩:=y
  dsimp only at hd hdr hnd
  have HD:=Lib.hid hd
  have HDR:=Lib.hid hdr
  have HND:=Lib.hid hnd
  have HY:=Lib.hid hY
  clear hY hd hdr hnd
  go_wp2_with fail
  (with_reducible refine hcall.mono ?_)
  rintro e9 w2 ⟨g,rfl,hre,-,hg2⟩
  have hdoc:=refParse_pat p w2 (by omega)
  rw [HD.out] at hdoc
  have HG2:=Lib.hid (HG1.out.trans hg2)
  have HRE:=Lib.hid hre
  clear hcall hg2 hre hf hfb hfi
  go_wp2_with fail
  (with_reducible refine hdoc.mono ?_)
  rintro e9 w3 ⟨g3,A3,cap3,rfl,-,hb3,hA3,hg3⟩
  have HG3:=Lib.hid (HG2.out.trans hg3)
  have HRE3:=Lib.hid (HRE.out.grows hg3)
  dsimp only at hb3 hA3
  have hall:=alldoc_any (s:=s) (by omega) (most:=20000) (by omega) (by omega) HND.out.1 (by have:=HND.out.2.2;omega) A3 cap3 g3 k _ _ _ w3 hb3 (hA3.mono fun _ _ _=>trivial) HK.out
  obtain ⟨⟨G,B,n⟩,hR⟩:∃ z,allRk s f 20000 k 0=z:=⟨_,rfl⟩
  rw [hR] at hall
  dsimp only at hall
  have HR:=Lib.hid hR
  clear hdoc hg3 hb3 hA3 hR
  go_wp2_with fail
  (with_reducible refine hall.mono ?_)
  rintro e9 w4 ⟨⟨rfl,hl⟩,hg4⟩
  have hgs:(spC G).size=20:=by rw [spC_size];exact hl
  have hz:(spC spZero).size=20:=by rw [spC_size];rfl
  have hov:over (spC spZero) 0 (spC G)=spC G:=over_all (by omega)
  have hspn:span (spC G) 0 20=spC G:=span_all hgs
  have HL:=Lib.hid hl
  have HEQ:=Lib.hid (eq_spans G hl)
  have HG4:=Lib.hid (HG3.out.trans hg4)
  have HRE4:=Lib.hid (HRE3.out.grows hg4)
  clear hall hg4 hl
  go_upto_region 10 with fail
  have hg5:Grows w4 (w4.alloc (.cells (spC G) 35)):=(Grows.refl _).alloc _
  have hb5:blk (w4.alloc (.cells (spC G) 35)) w4.heap.size=spC G:=blk_alloc_at _ _ _ _ rfl
  obtain ⟨bA,hbA⟩:∃ z,z=w4.heap.size:=⟨_,rfl⟩
  rw [← hbA] at hb5 ⊢
  generalize w4.alloc (.cells (spC G) 35)=w5 at *
  have HG5:=Lib.hid (HG4.out.trans hg5)
  have HB5:=Lib.hid hb5
  have HRE5:=Lib.hid (HRE4.out.grows hg5)
  clear hg5 hb5 hbA
  by_cases hn:20000 < n
  ·have hnb:decide (20000 < n)=true:=decide_eq_true hn
   have hni:(20000:Int) < (n:Int):=by omega
   go_wp2_with fail
   (with_reducible refine (HDO.out _ HG5.out).mono ?_)
   rintro e9 w6 ⟨rfl,hg6⟩
   go_wp2_with fail
   go_ret
   exact ⟨rfl,HG5.out.trans hg6⟩
  ·have hnb:decide (20000 < n)=false:=decide_eq_false hn
   have hni:¬ (20000:Int) < (n:Int):=by omega
   have hm:=match_any (s:=s) (k:=k) (fuel:=20000) (by omega) f t HND.out.1 (by have:=HND.out.2.2;omega) (fun _=>by omega) _ g w5 HRE5.out (HTZ.out.grows HG5.out)
   have hsame:=ways_same (s:=s) HY.out (k:=k) (by rw [HR.out];dsimp only;omega)
   rw [HR.out] at hsame
   dsimp only at hsame
   rw [hsame] at hm
   unfold mtV at hm
   dsimp only at hm
   clear hsame
   go_wp2_with fail
   (with_reducible refine hm.mono ?_)
   rintro e9 w6 ⟨⟨rfl,-⟩,hg6⟩
   clear hm
   go_upto_region 13 with fail
   have hg7:Grows w5 (w6.alloc (.cells (spC G) 35)):=hg6.alloc _
   have hb7:blk (w6.alloc (.cells (spC G) 35)) w6.heap.size=spC G:=blk_alloc_at _ _ _ _ rfl
   obtain ⟨bB,hbB⟩:∃ z,z=w6.heap.size:=⟨_,rfl⟩
   rw [← hbB] at hb7 ⊢
   generalize w6.alloc (.cells (spC G) 35)=w7 at *
   have ha7:=blkG HB5.out (by omega) hg7
   have iA:InHeap bA w7:=Blk.inHeap ha7 (by omega)
   have iB:InHeap bB w7:=Blk.inHeap hb7 (by omega)
   have HG7:=Lib.hid (HG5.out.trans hg7)
   have heq:=HEQ.out
   have hBB:(B == B)=true:=by cases B <;> rfl
   have hdo:=HDO.out w7 HG7.out
   clear hg6 hg7 hbB
   go_wp2_with fail
   (with_reducible refine hdo.mono ?_)
   rintro e9 w8 ⟨rfl,hg8⟩
   go_wp2_with fail
   go_ret
   exact ⟨rfl,HG7.out.trans hg8⟩
end Go.Proofs.YtnjagecmhdagkaaGreatDoor
