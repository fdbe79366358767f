/-
 Matches, the document's way by all ways: a row, walked.
-/
import Derived.Test.YtnjagecmhdagkaaGreatDoorPk44
import Derived.Deep.RegionHeld3
set_option linter.unusedSimpArgs false
set_option linter.unusedVariables false
set_option maxRecDepth 3000
namespace Go.Proofs.YtnjagecmhdagkaaGreatDoor
open Go.RowKit
theorem sp_load {w:World} {b o:Nat} {g:Spn} (hg:g.length=20) (h:∀ j u,(spC g)[j]?=some u→w.cell? ⟨b,o+j,none⟩=some u):loadPart Tryz.prog w 35 b o 20=.ok (spV g) w:=by
 obtain ⟨d,hu,hd,hi⟩:=rowSp
 unfold loadPart
 simp only [Instr.loadAt,Instr.sureAddr,Sem.run_bind,Sem.run_pure,Result.andThen_ok]
 exact run_loadVar_cells w b o 35 (spC g).toList d (fun j v hv=>h j v (by rw [← Array.getElem?_toList];exact hv)) hu hd (by rw [hi];simp [spC,hg])
theorem FrAt.tail {ok:Nat→Prop} {w:World} {b o cap:Nat} {x:NdV} {k r:Fr} (h:FrAt ok w (Option.some ⟨b,o,none⟩) cap (.cons x k r)):FrAt ok w (if cap=1 then (Option.some ⟨b,o,none⟩:Option Addr) else Option.some ⟨b,o+262,none⟩) (cap - 1) r:=by
 obtain ⟨xs,h1,h2⟩:=h
 obtain ⟨K0,cap0,ys,zs,e,k1,k2,k3⟩:=FrRow.head h2
 have hz:(ndC x (.slice K0 k.len cap0)).toList.length=262:=by simp [ndA_size]
 have hle:r.len+1≤cap:=h1.le
 have hlen:xs.length=(r.len+1)*262:=h1.rd.1
 generalize (ndC x (.slice K0 k.len cap0)).toList=zl at hz e
 have hlz:zs.length=r.len*262:=by rw [e,List.length_append,hz] at hlen;omega
 have hok:ok b:=h1.ok (Nat.succ_pos _) _ rfl
 refine ⟨zs,⟨⟨hlz,fun hc=>?_⟩,(fun e=>by split at e <;> cases e),by omega,by have:=h1.cap63;omega,fun hc a2 e2=>?_⟩,k3⟩
 ·obtain ⟨b',o',e2,hb,hcell⟩:=h1.rd.2 (Nat.succ_pos _)
  cases e2
  rw [if_neg (by omega)]
  refine ⟨b,o+262,rfl,hb,fun j u hu=>?_⟩
  rw [Nat.add_assoc]
  refine hcell (262+j) u ?_
  rw [e,List.getElem?_append_right (by omega),hz,Nat.add_sub_cancel_left]
  exact hu
 ·rw [if_neg (by omega)] at e2
  cases e2
  exact hok
attribute [local go_sem ↓] zeroNodeR ldNodeR_eq stNodeR_eq ldSp_eq stSp_eq zeroSp bldSt_eq bldSlSt_eq bldSlWyR_eq
attribute [local go_sem] loadNodeR storeNodeR storeNodeR_if ndA_one_slice loadSp storeSp storeSp_if spC_one bldSt_two bldSt_three bldSlSt_run bldSlWyR_run
section
variable {s:List UInt8} {most:Int} {sb B:Nat}
theorem node_in {x:NdV} {k:Fr} (hx:NdOk x) (hk:AllNd k) {a n:Nat} {g:Spn} (ha:a≤s.length) (hg:SpIn s.length g):InS s.length a 1 (nodeR10 s most x k a g n).1:=by
 intro t ht
 unfold nodeR10 at ht
 split at ht
 ·rw [List.mem_map] at ht
  obtain ⟨u,hu,rfl⟩:=ht
  obtain ⟨q1,q2,q3,_⟩:=row_in k a g n hk ha hg u hu
  exact ⟨q1,q2,q3.set hx.n (by omega) (by omega) (by omega),by simp [Wy.len]⟩
 ·split at ht
  ·rw [List.mem_map] at ht
   obtain ⟨u,hu,rfl⟩:=ht
   obtain ⟨q1,q2,q3,_⟩:=turn_in (M:=k.len) (fun a g m ha hg=>row_in k a g m hk ha hg) (fun g hg=>unset_inS hk hg) _ _ a g n ha hg u hu
   exact ⟨q1,q2,q3,by simp [Wy.len]⟩
  ·split at ht
   ·cases ht
   ·rename_i j hj
    rw [List.mem_singleton] at ht
    subst ht
    exact ⟨by dsimp only;omega,oneV_le hj ha,hg,by simp [Wy.len]⟩
theorem node_top (hB:∀ n,ovN most n=false→n+1≤B) {x:NdV} {k:Fr} {a n:Nat} {g:Spn} (hn:n≤B) (ho:ovN most n=false):(nodeR10 s most x k a g n).2≤B:=by
 have ho2:n+1≤B:=hB n ho
 unfold nodeR10
 split
 ·exact row_top hB k a g n hn
 ·split
  ·exact turn_top (fun a g n h=>row_top hB k a g n h) _ _ _ _ _ hn
  ·split <;> exact ho2
theorem row_nilD:RowD s most sb B .nil:=by
 intro A cap a n g w hA ha hg hsb hn
 have hgl:=hg.len
 have hsz:(spC g).size=20:=by rw [spC_size];exact hgl
 have HSB:=Lib.hid hsb
 clear hA hg hsb
 go_enter Tryz.func31,Tryz.ntmps31
 go_upto_region 1 with fail
 have hg1:Grows w (w.alloc (Obj.cells (spC g) 35)):=(Grows.refl _).alloc _
 have hb1:blk (w.alloc (Obj.cells (spC g) 35)) w.heap.size=spC g:=blk_alloc_at _ _ _ _ rfl
 generalize w.alloc (Obj.cells (spC g) 35)=w1 at *
 have HG1:=Lib.hid hg1
 have hld:=loadSp_all w1 w.heap.size (spC g) hb1 hsz
 have hz1:=hg1.below.size
 clear hg1 hb1
 go_wp2_with fail
 go_ret
 have hb2:blk (w1.alloc (.cells (stC a g (.slice none 0 0)) 87)) w1.heap.size=stC a g (.slice none 0 0):=blk_alloc_at _ _ _ _ rfl
 have hg2:Grows w (w1.alloc (.cells (stC a g (.slice none 0 0)) 87)):=HG1.out.alloc _
 exact ⟨_,rfl,st_blk (t:=(a,g,.nil)) hb2 hgl (WyAt.zero _ _) hz1,blkG HSB.out (by simp [daC]) hg2,Chg.of_grows hg2,free_blk hb2 (by rw [stC_size hgl];decide)⟩
set_option maxRecDepth 100000 in
set_option maxHeartbeats 8000000 in
theorem row_consD (hs:s.length≤60000) (hB:∀ n,ovN most n=false→n+1≤B) (hB9:B≤900000) {x:NdV} {k r:Fr} (hnd:AllNd (.cons x k r)) (hsz9:(Fr.cons x k r).size≤1000) (hnode:NodeD s most sb B x k) (hrow:RowD s most sb B r):RowD s most sb B (.cons x k r):=by
 intro A cap a n g w hA ha hg hsb hn
 have hgl:=hg.len
 have hsz:(spC g).size=20:=by rw [spC_size];exact hgl
 have isb:sb < w.heap.size:=Blk.inHeap hsb (by simp [daC])
 have hrl:r.len≤1000:=by have:=r.len_size;simp only [Fr.size] at hsz9;omega
 have HA:=Lib.hid hA
 have HG:=Lib.hid hg
 have HB:=Lib.hid hB
 have HND:=Lib.hid hnd
 have HNODE:=Lib.hid hnode
 have HROW:=Lib.hid hrow
 have hlen:(Fr.cons x k r).len=r.len+1:=rfl
 rw [hlen]
 obtain ⟨b1,o1,rfl,ib0⟩:=hA.some (by rw [hlen];omega)
 clear hB hg hnd hnode hrow hsz9 hlen
 go_enter Tryz.func31,Tryz.ntmps31
 go_upto_region 1 with fail
 have hg1:Grows w (w.alloc (Obj.cells (spC g) 35)):=(Grows.refl _).alloc _
 have hb1:blk (w.alloc (Obj.cells (spC g) 35)) w.heap.size=spC g:=blk_alloc_at _ _ _ _ rfl
 obtain ⟨bG,hbG⟩:∃ z,z=w.heap.size:=⟨_,rfl⟩
 rw [← hbG] at hb1 ⊢
 have HBG:=Lib.hid hbG
 generalize w.alloc (Obj.cells (spC g) 35)=w1 at *
 have hsb1:=blkG hsb (by simp [daC]) hg1
 have hcall:=over_anyD w1 sb s n most hsb1
 obtain ⟨O,hO⟩:∃ O,ovN most n=O:=⟨_,rfl⟩
 rw [hO] at hcall
 have HO:=Lib.hid hO
 have HG1:=Lib.hid hg1
 have HB1:=Lib.hid hb1
 have HSB1:=Lib.hid hsb1
 have q1:((r.len:Int)+1 == 0)=false:=by rw [beq_eq_false_iff_ne];omega
 clear hA hg1 hb1 hsb hsb1 hO hbG
 go_wp2_with fail
 (with_reducible refine hcall.mono ?_)
 rintro e9 w2 ⟨rfl,hg2⟩
 have HG2:=Lib.hid (HG1.out.trans hg2)
 have hb2:=blkG HB1.out (by omega) hg2
 have HB2:=Lib.hid hb2
 have HSB2:=Lib.hid (blkG HSB1.out (by simp [daC]) hg2)
 have hz2:=HG2.out.below.size
 clear hcall hg2 hb2 HG1 HB1 HSB1
 cases O with
 | true =>
  have eR:rowR10 s most (.cons x k r) a g n=([(a,g,.nil)],n):=by rw [rowR10_cons,if_pos HO.out]
  have ER:=Lib.hid eR
  have hld:=loadSp_all w2 bG (spC g) HB2.out hsz
  clear eR HNODE HROW
  go_wp2_with fail
  go_ret
  have hb3:blk (w2.alloc (.cells (stC a g (.slice none 0 0)) 87)) w2.heap.size=stC a g (.slice none 0 0):=blk_alloc_at _ _ _ _ rfl
  have hg3:Grows w (w2.alloc (.cells (stC a g (.slice none 0 0)) 87)):=HG2.out.alloc _
  unfold DaPostF
  rw [ER.out]
  exact ⟨_,rfl,st_blk (t:=(a,g,.nil)) hb3 hgl (WyAt.zero _ _) hz2,blkG HSB2.out (by simp [daC]) ((Grows.refl _).alloc _),Chg.of_grows hg3,free_blk hb3 (by rw [stC_size hgl];decide)⟩
 | false =>
  have eR:rowR10 s most (.cons x k r) a g n=eachR (fun e g2 n=>rowR10 s most r e g2 n) (fun t=>t.2.2) (nodeR10 s most x k a g n).1 (nodeR10 s most x k a g n).2:=by rw [rowR10_cons,if_neg (by rw [HO.out];decide)]
  have hin:=row_in (s:=s) (most:=most) (.cons x k r) a g n HND.out ha HG.out
  have hcnt:=row_cnt (s:=s) (most:=most) (.cons x k r) a g n
  have htop:=row_top (s:=s) HB.out (.cons x k r) a g n hn
  have hnin:InS s.length a 1 (nodeR10 s most x k a g n).1:=node_in HND.out.1 HND.out.2.1 ha HG.out
  have hntop:(nodeR10 s most x k a g n).2≤B:=node_top HB.out hn HO.out
  rw [eR] at hin hcnt htop
  have hA2:=HA.out.grows HG2.out
  obtain ⟨Kd,kc,hK,n0⟩:=hA2.node (a:=.nil) (x:=x) (kids:=k) (rest:=r) rfl rfl
  have ib2:InHeap b1 w2:=Nat.lt_of_lt_of_le ib0 hz2
  have iG2:InHeap bG w2:=Blk.inHeap HB2.out (by omega)
  have hldx:∀ m:More,loadPart Tryz.prog (more w2 m) 91 b1 o1 262=.ok (.agg (ndC x (.slice Kd k.len kc))) (more w2 m):=fun m=>node_loadR (ndA_size _ _ _ _ _ _ _) fun j u hu=>cellG (by have:=n0 j u hu;simpa [Fr.len] using this) ⟨m,rfl⟩
  have hldg:∀ m:More,loadPart Tryz.prog (more w2 m) 35 bG 0 20=.ok (spV g) (more w2 m):=fun m=>loadSp_all _ bG (spC g) (blkG HB2.out (by omega) ⟨m,rfl⟩) hsz
  have hcall:=fun m:More=>HNODE.out Kd kc a n g (more w2 m) (hK.grows ⟨m,rfl⟩) ha HG.out (blkG HSB2.out (by simp [daC]) ⟨m,rfl⟩) hn
  have HCALL:=Lib.hid hcall
  obtain ⟨N,hN⟩:∃ N,nodeR10 s most x k a g n=N:=⟨_,rfl⟩
  rw [hN] at hin hcnt htop hnin hntop HCALL eR
  have ER0:=Lib.hid eR
  have HIN:=Lib.hid hin
  have HCNT:=Lib.hid hcnt
  have HTOP:=Lib.hid htop
  have HNIN:=Lib.hid hnin
  have HNTOP:=Lib.hid hntop
  clear eR hA2 hK n0 hcall hN hin hcnt htop hnin hntop HNODE
  go_upto_region 4 with fail
  refine region_tail 6 (by kernel_rfl) (by kernel_rfl) ?_
  simp only [List.take_succ_cons,List.take_zero,List.drop_succ_cons,List.drop_zero]
  repeat (go_big_quiet_step (fail))
  refine wpQuiet_nil ?_
  intro _ hw'
  obtain ⟨m2,rfl⟩:=hw'
  go_wp2_with fail
  (with_reducible refine (HCALL.out m2).mono ?_)
  rintro e9 w3 hpost
  have hpost:=hpost.late (W:=w2) ⟨m2,rfl⟩
  obtain ⟨v,rfl,hS,hsb3,hc3⟩:=hpost
  have hz3:=hc3.size
  have hgr3:Hid (Chg (fun b=>b=sb) w w3):=Lib.hid ((Chg.of_grows HG2.out).trans hc3)
  obtain ⟨W3,hW3⟩:∃ z,z=w3:=⟨_,rfl⟩
  subst hW3
  have HS:=Lib.hid (hS.mono (ok2:=fun b=>w.heap.size≤b∧(Value.slice none 0 0).ownBlock≠some b) fun b _ hb=>⟨Nat.le_trans hz2 hb,fun e=>by cases e⟩)
  have HSB3:=Lib.hid hsb3
  have ib3:InHeap b1 W3:=by unfold InHeap at *;omega
  obtain ⟨A1,cap1,xs1,rfl,hsl1,-⟩:=hS
  have h63:=hsl1.cap63
  have hle1:=hsl1.le
  obtain ⟨L1,hL1⟩:∃ z,N.1=z:=⟨_,rfl⟩
  rw [hL1] at HS hle1
  rw [hL1] at HIN HCNT HTOP HNIN ER0 ⊢
  have hz3w:w.heap.size≤W3.heap.size:=Nat.le_trans hz2 hz3
  have hL9:L1.length≤cap1:=hle1
  obtain ⟨m0,hm0⟩:∃ z,N.2=z:=⟨_,rfl⟩
  rw [hm0] at HSB3 HIN HCNT HTOP HNTOP ER0
  clear hsb3 hc3 hldx hldg HCALL hsl1 ib2 iG2 HSB2 HB2 HG2 hL1 hm0 hle1
  obtain ⟨K,hK⟩:∃ K:Nat→Spn→Nat→List St × Nat,K=fun e g2 n=>rowR10 s most r e g2 n:=⟨_,rfl⟩
  obtain ⟨fw,hfw⟩:∃ K:St→Wy,K=fun t=>t.2.2:=⟨_,rfl⟩
  rw [← hK,← hfw] at HIN HCNT HTOP ER0
  have HKE:=Lib.hid (And.intro hK hfw)
  clear hK hfw
  obtain ⟨base,hbase⟩:∃ z,z=w.heap.size:=⟨_,rfl⟩
  rw [← hbase] at HS hz3w isb
  have HBASE:=Lib.hid hbase
  clear hbase
  go_wp2_with fail
  go_loopg [9,11] L1.length (fun q v9 v11 wr=>∃ (i:Nat) (a1 c1:List St),q+i=L1.length∧v11=.int .i64 i∧L1=a1++c1∧a1.length=i∧OwnSt base wr v9 (eachR K fw a1 m0).1∧SsAt (fun b=>base≤b∧v9.ownBlock≠some b) wr (.slice A1 L1.length cap1) L1∧blk wr sb=daC s (eachR K fw a1 m0).2 most∧Chg (fun b=>b=sb) w wr)
  case atStart=>exact ⟨0,[],L1,by omega,rfl,rfl,rfl,OwnSt.nil _ _,HS.out,HSB3.out,hgr3.out⟩
  case round =>
   obtain ⟨i,a1,c1,hq,rfl,hL,hai,hown,hss,hsbr,hcr⟩:=hrel
   have HQ:=Lib.hid hq
   have HOWN:=Lib.hid hown
   have HSS:=Lib.hid hss
   have HSBR:=Lib.hid hsbr
   have HCR:=Lib.hid hcr
   cases c1 with
   | nil =>
    have hiL:i=L1.length:=by rw [hL,List.append_nil];exact hai.symm
    have haL:a1=L1:=by rw [hL,List.append_nil]
    have HE:=Lib.hid haL
    clear hq hown hss hsbr hcr hL hai haL
    subst hiL
    go_wp2_with fail
    go_ret
    unfold DaPostF
    rw [ER0.out,← HE.out]
    exact ⟨_,rfl,by rw [← HBASE.out];exact HOWN.out.at,HSBR.out,HCR.out,HOWN.out.free⟩
   | cons t c1 =>
    have hil:i < L1.length:=by rw [hL,List.length_append,hai];simp
    have i1:(i:Int) < (L1.length:Int):=by omega
    obtain ⟨b2,o2,cp2,e2,ib2,hok2,-,-⟩:=hss.form (by omega)
    injection e2 with e2 e3 e4
    subst e2
    subst e4
    obtain ⟨At,ct,hN⟩:=hss.nth hL
    rw [hai] at hN
    obtain ⟨wx,hwx⟩:∃ z,z=wr:=⟨_,rfl⟩
    subst hwx
    have ht:=HNIN.out t (by rw [hL];simp)
    have hAx:=HA.out.chg hcr fun b _ hb=>hb
    have htl:=hAx.tail
    obtain ⟨RA,hRA⟩:∃ z,(if cap=1 then (some ⟨b1,o1,none⟩:Option Addr) else some ⟨b1,o1+262,none⟩)=z:=⟨_,rfl⟩
    rw [hRA] at htl
    have hcap:r.len+1≤cap∧cap≤9223372036854775807:=by
     obtain ⟨xs,q,_⟩:=hAx
     exact ⟨q.le,q.cap63⟩
    have hc1:=hcap.1
    have hc2:=hcap.2
    obtain ⟨m1,hm1⟩:∃ z,(eachR K fw a1 m0).2=z:=⟨_,rfl⟩
    obtain ⟨O1,hO1⟩:∃ z,(eachR K fw a1 m0).1=z:=⟨_,rfl⟩
    have hm9:m1≤B:=by
     rw [← hm1,HKE.out.1]
     exact each_top (fun e g2 n h=>row_top (s:=s) HB.out r e g2 n h) _ _ HNTOP.out
    rw [hm1] at hsbr
    rw [hO1] at hown
    have hcall:=fun m:More=>HROW.out RA (cap - 1) t.1 m1 t.2.1 (more wx m) (htl.grows ⟨m,rfl⟩) ht.2.1 ht.2.2.1 (blkG hsbr (by simp [daC]) ⟨m,rfl⟩) hm9
    have HCALL:=Lib.hid hcall
    have hld:∀ m:More,loadPart Tryz.prog (more wx m) 35 b2 (o2+i*22+1) 20=.ok (spV t.2.1) (more wx m):=fun m=>sp_load hN.len fun j u hu=>cellG (hN.sp j u hu) ⟨m,rfl⟩
    have d0:=hN.c0
    have HM:=Lib.hid (And.intro hm1 hO1)
    have HN1:=Lib.hid hN
    have HL:=Lib.hid (And.intro hL hai)
    have hib1:InHeap b1 wx:=by have:=hcr.size;unfold InHeap at *;omega
    clear hq hss hsbr hcr hL hai hN ht hAx htl hcap hm1 hO1 hcall ib3
    go_upto_region 8 with fail
    refine region_tail 13 (by kernel_rfl) (by kernel_rfl) ?_
    simp only [List.take_succ_cons,List.take_zero,List.drop_succ_cons,List.drop_zero]
    repeat (go_big_quiet_step (fail))
    refine wpQuiet_nil ?_
    intro _ hw'
    obtain ⟨m2,rfl⟩:=hw'
    go_wp2_with fail
    (with_reducible refine (HCALL.out m2).mono ?_)
    rintro e9 w4 hpost
    have hpost:=hpost.weak.late (W:=wx) ⟨m2,rfl⟩
    obtain ⟨M,hM⟩:∃ z,rowR10 s most r t.1 t.2.1 m1=z:=⟨_,rfl⟩
    have hrin:=row_in (s:=s) (most:=most) r t.1 t.2.1 m1 HND.out.2.2 (HNIN.out t (by rw [HL.out.1];simp)).2.1 (HNIN.out t (by rw [HL.out.1];simp)).2.2.1
    rw [hM] at hpost hrin
    obtain ⟨v,rfl,hS2,hsb4,hc4⟩:=hpost
    have hKM:K t.1 t.2.1 m1=M:=by rw [HKE.out.1];exact hM
    have hnext:eachR K fw (a1++[t]) m0=(O1++addW t.2.2 M.1,M.2):=by
     rw [each_app,HM.out.1,HM.out.2]
     simp only [eachR,hKM,List.append_nil]
     rw [HKE.out.2]
    have hOL:O1.length+M.1.length≤900001:=by
     have h1:=HCNT.out.1
     have h2:=HTOP.out
     have h3:(eachR K fw L1 m0).1.length=(O1++addW t.2.2 M.1).length+(eachR K fw c1 M.2).1.length:=by
      rw [HL.out.1,show a1++t::c1=(a1++[t])++c1 by simp,each_app,hnext,List.length_append]
     rw [h3,List.length_append] at h1
     simp only [addW,List.length_map] at h1
     omega
    have hbw:base≤wx.heap.size:=by rw [HBASE.out];exact HCR.out.size
    have hown4:=HOWN.out.chg hc4 fun b h1 _ (e:b=sb)=>by omega
    have hss4:=HSS.out.chg hc4 fun b _ h1 (e:b=sb)=>by have:=h1.1;omega
    have hs2:SsAt (fun b=>base≤b∧u9.ownBlock≠some b) w4 v M.1:=hS2.mono fun b _ h1=>⟨Nat.le_trans hbw h1,fun e=>by have:=(HOWN.out.own e).2;omega⟩
    rw [HM.out.2] at hown4
    have hcr4:=HCR.out.trans hc4
    obtain ⟨L2,hL2⟩:∃ z,M.1=z:=⟨_,rfl⟩
    obtain ⟨m3,hm3⟩:∃ z,M.2=z:=⟨_,rfl⟩
    rw [hL2] at hs2 hS2 hOL hrin hnext
    rw [hm3] at hsb4 hnext
    obtain ⟨A2,cap2,xs2,rfl,hsl2,-⟩:=hS2
    have hle2:=hsl2.le
    have h632:=hsl2.cap63
    have HOWN4:=Lib.hid hown4
    have HSS4:=Lib.hid hss4
    have HS2:=Lib.hid hs2
    have HSB4:=Lib.hid hsb4
    have HCR4:=Lib.hid hcr4
    have HRIN:=Lib.hid hrin
    have HNX:=Lib.hid hnext
    have HBW:=Lib.hid hbw
    obtain ⟨gi,hgi⟩:∃ z,z=gk:=⟨_,rfl⟩
    subst hgi
    clear hM hKM hnext hbw hown4 hss4 hs2 hcr4 hsb4 hsl2 hrin hc4 hld HCALL d0 hib1 HOWN HSS HSBR HCR hL2 hm3 HN1 hc1 hc2 hRA ib2 hok2 HSB3 HS hgr3
    go_wp2_with fail
    go_loopg [9,13] L2.length (fun q v9 v13 wr=>∃ (k2:Nat) (a2 c2:List St),q+k2=L2.length∧v13=.int .i64 k2∧L2=a2++c2∧a2.length=k2∧OwnSt base wr v9 (O1++addW t.2.2 a2)∧SsAt (fun b=>base≤b∧v9.ownBlock≠some b) wr (.slice (some ⟨b2,o2,none⟩) L1.length cap1) L1∧SsAt (fun b=>base≤b∧v9.ownBlock≠some b) wr (.slice A2 L2.length cap2) L2∧blk wr sb=daC s m3 most∧Chg (fun b=>b=sb) w wr)
    case atStart=>exact ⟨0,[],L2,by omega,rfl,rfl,rfl,by rw [show addW t.2.2 []=[] from rfl,List.append_nil];exact HOWN4.out,HSS4.out,HS2.out,HSB4.out,HCR4.out⟩
    case round =>
     obtain ⟨k2,a2,c2,hq,rfl,hL2,ha2,hown,hss,hs2,hsbr,hcr⟩:=hrel
     cases c2 with
     | nil =>
      have hkL:k2=L2.length:=by rw [hL2,List.append_nil];exact ha2.symm
      have haL:a2=L2:=by rw [hL2,List.append_nil]
      subst hkL
      subst haL
      have HO2:=Lib.hid hown
      have HS1:=Lib.hid hss
      have HSBR:=Lib.hid hsbr
      have HCR:=Lib.hid hcr
      clear hq hown hss hs2 hsbr hcr hL2 ha2
      go_wp2_with fail
      go_roundg (gi - 1)
      case measure=>have:=HQ.out;omega
      case rel=>exact ⟨i+1,a1++[t],c1,by have:=HQ.out;omega,by go_num,by rw [List.append_assoc];exact HL.out.1,by rw [List.length_append,HL.out.2];rfl,by rw [HNX.out];exact HO2.out,HS1.out,by rw [HNX.out];exact HSBR.out,HCR.out⟩
     | cons u c2 =>
      have hk2:k2 < L2.length:=by rw [hL2,List.length_append,ha2];simp
      have k21:(k2:Int) < (L2.length:Int):=by omega
      obtain ⟨b3,o3,cp3,e3,ib3,-,-,-⟩:=hs2.form (by omega)
      injection e3 with e3 e4 e5
      subst e3
      subst e5
      obtain ⟨Au,cu,hU⟩:=hs2.nth hL2
      obtain ⟨Aw,cw,hT⟩:=hss.nth HL.out.1
      rw [ha2] at hU
      rw [HL.out.2] at hT
      have ib2:InHeap b2 wr:=hT.inh
      obtain ⟨wy,hwy⟩:∃ z,z=wr:=⟨_,rfl⟩
      subst hwy
      obtain ⟨g3,hg3⟩:∃ z,u.2.1=z:=⟨_,rfl⟩
      have hg3l:g3.length=20:=by rw [← hg3];exact hU.len
      have hsz3:(spC g3).size=20:=by rw [spC_size];exact hg3l
      obtain ⟨p1,hp1⟩:∃ z,t.2.2=z:=⟨_,rfl⟩
      obtain ⟨p2,hp2⟩:∃ z,u.2.2=z:=⟨_,rfl⟩
      obtain ⟨eu,heu⟩:∃ z,u.1=z:=⟨_,rfl⟩
      obtain ⟨ms1,ws1,wr1⟩:=hT.wy
      obtain ⟨ms2,ws2,wr2⟩:=hU.wy
      have c1:=hU.c0
      have c2':=hU.c21
      have c3:=hT.c21
      have sp3:=hU.sp
      have hpl1:p1.len≤1:=by rw [← hp1];exact (HNIN.out t (by rw [HL.out.1];simp)).2.2.2
      have hpl2:p2.len≤1000:=by rw [← hp2];have:=(HRIN.out u (by rw [hL2];simp)).2.2.2;omega
      rw [hp1] at ws1 wr1 c3
      rw [hp2] at ws2 wr2 c2'
      rw [hg3] at sp3
      rw [heu] at c1
      obtain ⟨O2,hO2⟩:∃ z,O1++addW t.2.2 a2=z:=⟨_,rfl⟩
      have hO2l:O2.length≤1000000:=by
       rw [← hO2,List.length_append]
       simp only [addW,List.length_map]
       omega
      rw [hO2] at hown
      obtain ⟨xo,hxo,hxr⟩:=hown
      have hlo1:∀ b,u9.ownBlock=some b→base≤b∧b < wy.heap.size:=fun b hb=>⟨(own_ltX hxo hb).2,(own_ltX hxo hb).1⟩
      have hby:base≤wy.heap.size:=by rw [HBASE.out];exact hcr.size
      have HSA:Hid (∀ w',Chg (fun b=>u9.ownBlock=some b) wy w'→(w'.cell? ⟨b3,o3+k2*22,none⟩=some (.int .i64 eu)∧w'.rangeAt b3 (o3+k2*22+1) (spC g3).toList∧w'.cell? ⟨b2,o2+i*22+21,none⟩=some (.slice Aw p1.len cw)∧w'.cell? ⟨b3,o3+k2*22+21,none⟩=some (.slice Au p2.len cu))):=by
       obtain ⟨_,_,_,e,_,hb3,_⟩:=hs2.form (by omega)
       obtain ⟨_,_,_,e2,_,hb2,_⟩:=hss.form (by omega)
       injection e with e
       injection e with e
       injection e2 with e2
       injection e2 with e2
       cases e
       cases e2
       exact Lib.hid fun w' hg=>⟨cellC c1 hg hb3.2,fun j v hj=>cellC (sp3 j v (by rw [← Array.getElem?_toList];exact hj)) hg hb3.2,cellC c3 hg hb2.2,cellC c2' hg hb3.2⟩
      have HF:Hid (∀ (w3 w4:World) (v':Value),Grows wy w3→w4.ownsRow wy.heap.size 130 2 v' (p1.len+p2.len) (ms1++ms2)→Grows wy w4→∃ A9 cap9,v'=.slice A9 (p1.len+p2.len) cap9∧WyAt (fun b=>base≤b∧u9.ownBlock≠some b) w4 A9 cap9 (p1.app p2)):=Lib.hid (by
       intro w3 w4 v' h1 h2 h3
       obtain ⟨A9,cap9,rfl,g1,g2,g3,g4,g5⟩:=own_rdX h2
       have hl:(p1.app p2).len=p1.len+p2.len:=Wy.len_app _ _
       have hc4:Chg (fun _=>False) wy w4:=Chg.of_grows h3
       refine ⟨A9,cap9,rfl,ms1++ms2,⟨by rw [hl];exact g3,by rw [hl];exact g4,by rw [hl];exact g1,g2,fun _ a e=>?_⟩,WyRow.app ((wr2.chg hc4 fun _ _ _ h=>h).mono fun b _ ho=>ho.1) ((wr1.chg hc4 fun _ _ _ h=>h).mono fun b _ ho=>ho.1)⟩
       obtain ⟨g,o,t⟩:=a
       have:=(g5 g o t e).2.2.1
       exact ⟨Nat.le_trans hby this,fun e=>by have:=(hlo1 _ e).2;simp only [] at this;omega⟩)
      have hw1:=ws1.rd
      have hw2:=ws2.rd
      have HR1:=Lib.hid ws1
      have HR2:=Lib.hid ws2
      have HN1:=Lib.hid (wr1.one)
      have HN2:=Lib.hid (wr2.one)
      have HXO:=Lib.hid hxo
      have HXR:=Lib.hid hxr
      have HSS:=Lib.hid hss
      have HS2:=Lib.hid hs2
      have HSBR:=Lib.hid hsbr
      have HCR:=Lib.hid hcr
      have HU:=Lib.hid (And.intro hL2 ha2)
      have HQ2:=Lib.hid hq
      have HLO:=Lib.hid hlo1
      have HY:=Lib.hid hby
      have hu23:=Tryz.underlying35
      have hi23:(Tryz.prog.info? 35).map (·.size)=some (spC g3).toList.length:=by rw [Array.length_toList,hsz3];kernel_rfl
      clear hq hss hs2 hsbr hcr hL2 ha2 hU hT hw1 hw2 ws1 ws2 wr1 wr2 c1 c2' c3 sp3 hxo hxr hlo1 hby
      go_upto_region 12 with fail
      go_region_held3 (fun w'=>w'.cell? ⟨b3,o3+k2*22,none⟩=some (.int .i64 eu)∧w'.rangeAt b3 (o3+k2*22+1) (spC g3).toList∧w'.cell? ⟨b2,o2+i*22+21,none⟩=some (.slice Aw p1.len cw)∧w'.cell? ⟨b3,o3+k2*22+21,none⟩=some (.slice Au p2.len cu))
       (first
        | (refine HSA.out _ (Chg.of_grows ?_);(repeat' first | exact G9.out | exact G8.out | exact Grows.refl _ | refine Grows.alloc ?_ _ | refine Grows.drewN ?_ _ | refine Grows.drew ?_);done)
        | (refine HSA.out _ ?_;(repeat' first | exact C7.out | refine chgDrewN ?_ _ | refine chgDrew ?_);done))
       (first
        | (refine step_append_rdE elemWyR (.tmp 69) (.tmp 74) wy.heap.size (.slice (some ⟨wy.heap.size,0,none⟩) 0 0) 0 [] Aw p1.len cw ms1 (by rfl) (by rfl) (by simp [Act.eval,Act.put]) (by first | exact World.ownsRow_made _ #[] 0 (Nat.le_refl _) (by decide) rfl | exact (World.ownsRow_made _ #[] 0 (Nat.le_refl _) (by decide) rfl).drew) (by simp [Act.eval,Act.put]) HR1.out.nil (HR1.out.rd.grows (by repeat' first | exact Grows.refl _ | refine Grows.alloc ?_ _ | refine Grows.drewN ?_ _ | refine Grows.drew ?_)) HN1.out (by omega) (by simp) ?_;intro v8 w8 hown8 hC8;simp only [Nat.zero_add,List.nil_append] at hown8;have G8:Hid (Grows wy w8):=Lib.hid (Chg.grows (n:=0) (by repeat' first | exact Grows.refl _ | refine Grows.alloc ?_ _ | refine Grows.drewN ?_ _ | refine Grows.drew ?_) hC8 fun b e=>by cases e;exact Nat.le_refl _);have O8:=Lib.hid hown8;clear hown8 hC8)
        | (refine step_append_rdE elemWyR (.tmp 75) (.tmp 80) wy.heap.size v8 p1.len ms1 Au p2.len cu ms2 (by rfl) (by rfl) (by simp [Act.eval,Act.put]) (own_moreX O8.out (by repeat' first | exact Grows.refl _ | refine Grows.alloc ?_ _ | refine Grows.drewN ?_ _ | refine Grows.drew ?_)) (by simp [Act.eval,Act.put]) HR2.out.nil (HR2.out.rd.grows (by repeat' first | exact G8.out | exact Grows.refl _ | refine Grows.alloc ?_ _ | refine Grows.drewN ?_ _ | refine Grows.drew ?_)) HN2.out (by omega) (by first | exact G8.out.below.size | (have:=G8.out.below.size;simp;omega)) ?_;intro v9 w9 hown9 hC9;have hG9:Grows wy w9:=Chg.grows (n:=0) (by repeat' first | exact G8.out | exact Grows.refl _ | refine Grows.alloc ?_ _ | refine Grows.drewN ?_ _ | refine Grows.drew ?_) hC9 fun b e=>(own_ltX O8.out e).2;obtain ⟨A9,cap9,rfl,hW9⟩:=HF.out _ w9 v9 (Grows.refl _) hown9 hG9;have G9:=Lib.hid hG9;have W9:=Lib.hid hW9;clear hown9 hC9 hG9 hW9)
        | (refine step_append_blk elemSt (.tmp 58) (.tmp 83) base u9 O2.length xo w9.heap.size (stC eu g3 (.slice A9 (p1.len+p2.len) cap9)) (by rfl) (by rfl) (by simp [Act.eval,Act.put]) (own_moreX HXO.out (by repeat' first | exact G9.out | exact Grows.refl _ | refine Grows.alloc ?_ _ | refine Grows.drewN ?_ _ | refine Grows.drew ?_)) (by simp [Act.eval,Act.put]) (by simp [go_sem]) (stC_size hg3l) (stC_one rfl) hO2l (by have:=HY.out;have:=G9.out.below.size;simp;omega) ?_;intro e7 cap7 w7 hown7 hC7 hE7;have C7:Hid (Chg (fun b=>u9.ownBlock=some b) wy w7):=Lib.hid ((Chg.of_grows (by repeat' first | exact G9.out | exact Grows.refl _ | refine Grows.alloc ?_ _ | refine Grows.drewN ?_ _ | refine Grows.drew ?_)).trans hC7);have P7:=Lib.hid (And.intro hown7 (And.intro hC7 hE7));clear hown7 hC7 hE7))
      all_goals (
       obtain ⟨q1,q2,q3⟩:=P7.out
       rw [← Wy.len_app] at q1
       have HO7:=Lib.hid (OwnSt.push (t:=(eu,g3,p1.app p2)) (HXR.out.chg (Chg.of_grows (p:=fun _=>False) (by repeat' first | exact G9.out | exact Grows.refl _ | refine Grows.alloc ?_ _ | refine Grows.drewN ?_ _ | refine Grows.drew ?_)) fun _ _ _ h=>h) hg3l (W9.out.grows (by repeat' first | exact Grows.refl _ | refine Grows.alloc ?_ _ | refine Grows.drewN ?_ _ | refine Grows.drew ?_)) q1 q2 q3)
       have HS7:=Lib.hid (SsAt.past (n:=O2.length+1) (cap:=cap7) (HSS.out.grows (by repeat' first | exact G9.out | exact Grows.refl _ | refine Grows.alloc ?_ _ | refine Grows.drewN ?_ _ | refine Grows.drew ?_)) q2 q3)
       have HT7:=Lib.hid (SsAt.past (n:=O2.length+1) (cap:=cap7) (HS2.out.grows (by repeat' first | exact G9.out | exact Grows.refl _ | refine Grows.alloc ?_ _ | refine Grows.drewN ?_ _ | refine Grows.drew ?_)) q2 q3)
       have HB7:Hid (blk w7 sb=daC s m3 most):=Lib.hid ((chg_blk C7.out (Blk.inHeap HSBR.out (by simp [daC])) (fun e=>by have:=(HLO.out sb e).1;omega)).trans HSBR.out)
       have HC7w:=Lib.hid (chg_late HCR.out C7.out fun b hb e=>by have:=(HLO.out b e).1;have:=HBASE.out;omega)
       have HOe:Hid (O1++addW t.2.2 (a2++[u])=O2++[(eu,g3,p1.app p2)]):=Lib.hid (by rw [← hO2,← heu,← hg3,← hp1,← hp2];simp [addW])
       clear q1 q2 q3 P7 C7 HSA HF HR1 HR2 HN1 HN2 G9 W9
       go_wp2_with fail
       go_roundg (gk - 1)
       case measure=>have:=HQ2.out;omega
       case rel=>exact ⟨k2+1,a2++[u],c2,by have:=HQ2.out;omega,by go_num,by rw [List.append_assoc];exact HU.out.1,by rw [List.length_append,HU.out.2];rfl,(by rw [HOe.out];exact HO7.out.grows (by repeat' first | exact Grows.refl _ | refine Grows.drewN ?_ _ | refine Grows.drew ?_)),HS7.out.grows (by repeat' first | exact Grows.refl _ | refine Grows.drewN ?_ _ | refine Grows.drew ?_),HT7.out.grows (by repeat' first | exact Grows.refl _ | refine Grows.drewN ?_ _ | refine Grows.drew ?_),blkG HB7.out (by simp [daC]) (by repeat' first | exact Grows.refl _ | refine Grows.drewN ?_ _ | refine Grows.drew ?_),HC7w.out.trans (Chg.of_grows (by repeat' first | exact Grows.refl _ | refine Grows.drewN ?_ _ | refine Grows.drew ?_))⟩)
end
end Go.Proofs.YtnjagecmhdagkaaGreatDoor
