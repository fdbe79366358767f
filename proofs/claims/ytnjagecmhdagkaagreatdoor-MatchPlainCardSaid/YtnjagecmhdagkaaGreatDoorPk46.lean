/-
 Matches, the document's table: the stretches of a node's groups (within), walked.
-/
import Derived.Test.YtnjagecmhdagkaaGreatDoorPk45
set_option linter.unusedSimpArgs false
set_option linter.unusedVariables false
namespace Go.Proofs.YtnjagecmhdagkaaGreatDoor
open Go.RowKit
attribute [local go_sem ↓] zeroNodeR ldNodeR_eq stNodeR_eq ldSp_eq stSp_eq zeroSp
attribute [local go_sem] loadNodeR storeNodeR storeNodeR_if ndA_one_slice gro0 gro1 gro2 gro3 gro4 gro5 loadSp storeSp storeSp_if loadSp_if spC_one
set_option maxRecDepth 100000 in
set_option maxHeartbeats 8000000 in
theorem dwith_any {s:List UInt8} {f:Fr} {tb:Nat} (hs:s.length≤900) (hf:f.size≤1000) {x:NdV} {k:Fr} (hx:NdOk x) (hk:AllNd k) (hk9:k.size≤1000) (hgive:DgiveC s f tb k):DwithC s f tb x k:=by
 intro ow w i a e g ht hn hall hae hen hends hg
 have hil:=nthF_lt hn
 have hmn:=hx.mn
 have hmx:=hx.mx
 have hxn:=hx.n
 have hsz:(spC g).size=20:=by rw [spC_size];exact hg
 have hz0:(spC spZero).size=20:=by rw [spC_size];rfl
 obtain ⟨R,hR⟩:∃ z,withinV s x k (giveV s k) a e g=z:=⟨_,rfl⟩
 rw [hR]
 have HR:=Lib.hid hR
 have HEN:=Lib.hid hends
 have HT:=Lib.hid ht
 have HN:=Lib.hid hn
 have HALL:=Lib.hid hall
 have HX:=Lib.hid hx
 have HK:=Lib.hid hk
 have HGIVE:=Lib.hid hgive
 clear hR hends ht hn hall hx hk hgive
 go_enter Tryz.func51,Tryz.ntmps51
 go_upto_region 1 with fail
 have HT0:=Lib.hid (TwoAt.start w (spC g) (spC spZero) 35 35)
 generalize (w.alloc (Obj.cells (spC g) 35)).alloc (Obj.cells (spC spZero) 35)=w1 at *
 have hz1:=HT0.out.size
 obtain ⟨bS,hbS⟩:∃ z,z=w.heap.size:=⟨_,rfl⟩
 obtain ⟨bR,hbR⟩:∃ z,z=w.heap.size+1:=⟨_,rfl⟩
 rw [← hbR,← hbS]
 have hnew:∀ b,w.heap.size≤b→ow b=0:=fun b hb=>by
  rcases Nat.eq_zero_or_pos (ow b) with h | h
  ·exact h
  ·have:=HT.out.old b (by omega)
   omega
 have HNEW:=Lib.hid hnew
 have HB1:Hid (blk w1 bS=spC g∧blk w1 bR=spC spZero∧ow bS=0∧ow bR=0):=Lib.hid ⟨by rw [hbS];exact HT0.out.fst,by rw [hbR];exact HT0.out.snd,hnew _ (by omega),hnew _ (by omega)⟩
 have HNE:Hid (bS≠bR∧w.heap.size≤bS∧w.heap.size≤bR∧bS < w1.heap.size∧bR < w1.heap.size):=Lib.hid (by omega)
 have HT1:=Lib.hid (HT.out.grows HT0.out.grows)
 have HG1:=Lib.hid HT0.out.grows
 clear HT0 hz1 hbS hbR hnew
 generalize spV g=VG
 obtain ⟨lb,lo,lc,K,kc,I,ic,hN⟩:=HT.out.node HN.out
 have HIDS:=Lib.hid hN.ids
 have HKID:=Lib.hid hN.kids
 have c1:=cellG hN.list HG1.out
 have il:InHeap lb w1:=Nat.lt_of_lt_of_le hN.inh HG1.out.below.size
 obtain ⟨c0,itb⟩:=HT1.out.str
 have itb2:InHeap tb w1:=itb
 have hii:(i:Int) < (f.size:Int):=by omega
 have hldG:∀ w',Grows w1 w'→loadPart Tryz.prog w' 91 lb (lo+i*263) 262=.ok (.agg (ndC x (.slice K k.len kc))) w':=fun w' hg=>node_loadR (ndA_size _ _ _ _ _ _ _) fun j u hu=>by
  have hj:j < 262:=by
   have:=(Array.getElem?_eq_some_iff.1 hu).1
   rwa [ndA_size] at this
  rw [Nat.add_assoc]
  exact cellG (hN.cells j u (by rw [dfA_lt (ndA_size _ _ _ _ _ _ _) hj];exact hu)) (HG1.out.trans hg)
 have cI:w1.cell? ⟨lb,lo+i*263+262,none⟩=some (.slice I k.len ic):=by
  have:=cellG (hN.cells 262 _ (dfA_262 (ndA_size _ _ _ _ _ _ _))) HG1.out
  rwa [← Nat.add_assoc] at this
 clear hN itb
 go_cut [11,12] (fun v11 v12 wx=>∃ bX,v11=.pointer (some ⟨bX,0,none⟩)∧v12=.slice I k.len ic∧blk wx bX=ndC x (.slice K k.len kc)∧Grows w1 wx∧w1.heap.size≤bX)
 case first =>
  go_region_law (fail)
  all_goals
   go_wp2_with fail
   go_meet
   exact ⟨_,rfl,rfl,(blk_alloc_at _ _ _ _ (by simp)),(by repeat' first | exact Grows.refl _ | refine Grows.alloc ?_ _ | refine Grows.drewN ?_ _ | refine Grows.drew ?_),(by simp)⟩
 case rest =>
  obtain ⟨bX,rfl,rfl,hX,hg2,hbX⟩:=hcut
  have hXo:ow bX=0:=HNEW.out bX (by have:=HG1.out.below.size;omega)
  have HX2:Hid (blk wc bX=ndC x (.slice K k.len kc)∧ow bX=0∧w.heap.size≤bX∧bX≠bS∧bX≠bR):=Lib.hid ⟨hX,hXo,by have:=HG1.out.below.size;omega,by have:=HNE.out;omega,by have:=HNE.out;omega⟩
  have HB2:Hid (blk wc bS=spC g∧blk wc bR=spC spZero∧ow bS=0∧ow bR=0):=Lib.hid ⟨blkG HB1.out.1 (by omega) hg2,blkG HB1.out.2.1 (by omega) hg2,HB1.out.2.2⟩
  have HT2:=Lib.hid (HT1.out.grows hg2)
  have HN2:=Lib.hid (DtNext.of_grows f tb ow (HG1.out.trans hg2))
  have c0x:=(Blk.cell hX (ndR_pos _ _) 0).trans (ndA_0 _ _ _ _ _ _ _)
  have c258:=(Blk.cell hX (ndR_pos _ _) 258).trans (ndA_258 _ _ _ _ _ _ _)
  have iX:InHeap bX wc:=Blk.inHeap hX (ndR_pos _ _)
  clear hX hg2 hbX hXo c0 c1 il itb2 hldG cI hii HT1 HB1 HG1
  go_upto_if 34 with fail
  go_cut [] (fun wx=>∃ (ow3:Nat→Nat) (g3:Spn),g3.length=20∧(x.kind=7→g3=R)∧(x.kind≠7→g3=g)∧blk wx bS=spC g3∧blk wx bR=spC spZero∧blk wx bX=ndC x (.slice K k.len kc)∧ow3 bS=0∧ow3 bR=0∧ow3 bX=0∧DtAt s f tb ow3 wx∧DtNext f tb ow ow3 w wx)
  case first =>
   by_cases h7:x.kind=7
   ·have b7:((x.kind:Int) == 7)=true:=by simp;omega
    have hends:endsF s k a e=true:=by have:=HEN.out;unfold nodeS at this;rwa [if_pos h7] at this
    have hRe:spSet (giveV s k a e g) x.n a e=R:=by rw [← HR.out,withinV,if_pos h7]
    have HRE:=Lib.hid hRe
    have H7:=Lib.hid h7
    have hcall:=HGIVE.out ow wc I ic (i+1) a e g HT2.out (HIDS.out.next HN2.out.cl) HALL.out hae hen hends hg
    obtain ⟨G,hG⟩:∃ z,giveV s k a e g=z:=⟨_,rfl⟩
    have hGl:G.length=20:=by rw [← hG,give_len];exact hg
    rw [hG] at hcall HRE
    have hszG:(spC G).size=20:=by rw [spC_size];exact hGl
    have hov:over (spC g) 0 (spC G)=spC G:=over_all (by omega)
    have hsp2:span (spC g) 0 20=spC g:=span_all hsz
    have hbS:=HB2.out.1
    clear h7 hG hends hRe
    go_wp2_with fail
    (with_reducible refine hcall.mono ?_)
    rintro e9 w3 ⟨ow3,rfl,hT3,hN3⟩
    have HS3:Hid (_∧_∧_∧_∧_∧_∧_∧_):=Lib.hid ⟨hN3.blk HB2.out.2.1 (by omega) (by rw [HB2.out.2.2.2];exact Nat.zero_le _),hN3.blk HX2.out.1 (ndR_pos _ _) (by rw [HX2.out.2.1];exact Nat.zero_le _),(hN3.cl.same bS (Blk.inHeap HB2.out.1 (by omega))).trans HB2.out.2.2.1,(hN3.cl.same bR (Blk.inHeap HB2.out.2.1 (by omega))).trans HB2.out.2.2.2,(hN3.cl.same bX (Blk.inHeap HX2.out.1 (ndR_pos _ _))).trans HX2.out.2.1,hT3,HN2.out.trans hN3,hN3⟩
    have hbS3:=hN3.blk HB2.out.1 (by omega) (by rw [HB2.out.2.2.1];exact Nat.zero_le _)
    have hbX3:=HS3.out.2.1
    have c258:=(Blk.cell hbX3 (ndR_pos _ _) 258).trans (ndA_258 _ _ _ _ _ _ _)
    have iX:InHeap bX w3:=Blk.inHeap hbX3 (ndR_pos _ _)
    clear hcall hT3 hN3 hbS hbX3
    go_upto_region 4 with fail
    have hc4:Chg (fun b=>b=bS) w3 (setBlk w3 bS (spC G)):=chg_setBlkM (K:=fun b=>b=bS) rfl
    have hb4:blk (setBlk w3 bS (spC G)) bS=spC G:=Blk.get _ hbS3 (by omega)
    obtain ⟨s1,s2,s3,s4,s5,s6,s7,s8⟩:=HS3.out
    have hq:∀ b,b=bS→ow3 b=0:=fun b e=>by rw [e];exact s3
    have HS4:Hid (blk (setBlk w3 bS (spC G)) bR=spC spZero∧blk (setBlk w3 bS (spC G)) bX=ndC x (.slice K k.len kc)∧ow3 bS=0∧ow3 bR=0∧ow3 bX=0∧DtAt s f tb ow3 (setBlk w3 bS (spC G))∧DtNext f tb ow ow3 w (setBlk w3 bS (spC G))):=Lib.hid ⟨(chg_blk hc4 (Blk.inHeap s1 (by omega)) fun e=>HNE.out.1 e.symm).trans s1,(chg_blk hc4 (Blk.inHeap s2 (ndR_pos _ _)) HX2.out.2.2.2.1).trans s2,s3,s4,s5,s6.chg hc4 hq,s7.own s6 hc4 (fun b e=>by rw [e];exact HNE.out.2.1) hq⟩
    generalize setBlk w3 bS (spC G)=w4 at *
    have HB4:=Lib.hid hb4
    have hz4:0 < (spC G).size:=by omega
    have q3:=(Blk.cell hb4 hz4 (x.n*2)).trans (spC_get (by omega))
    have q4:=(Blk.cell hb4 hz4 (x.n*2+1)).trans (spC_get (by omega))
    have q5:∀ k,w4.frozen? ⟨bS,k,none⟩=false:=fun k=>Blk.free hb4 hz4 k
    have q6:InHeap bS w4:=Blk.inHeap hb4 hz4
    have hxi:(x.n:Int) < 10:=by omega
    generalize G.getD (x.n*2) 0=u0 at q3
    generalize G.getD (x.n*2+1) 0=u1 at q4
    have c258:=(Blk.cell HS4.out.2.1 (ndR_pos _ _) 258).trans (ndA_258 _ _ _ _ _ _ _)
    have iX:InHeap bX w4:=Blk.inHeap HS4.out.2.1 (ndR_pos _ _)
    clear s1 s2 s3 s4 s5 s6 s7 s8 hq hc4 hb4 hbS3
    go_wp2_with fail
    go_meet
    obtain ⟨s1,s2,s3,s4,s5,s6,s7⟩:=HS4.out
    have hc5:=sp_chg w4 bS x.n (.int .i64 (a:Nat)) (.int .i64 (e:Nat))
    have hq:∀ b,b=bS→ow3 b=0:=fun b e=>by rw [e];exact s3
    exact ⟨ow3,R,by rw [← HRE.out,spSet_len];exact hGl,fun _=>rfl,fun h=>absurd H7.out h,by rw [← HRE.out];exact sp_put HB4.out hGl _ _,(chg_blk hc5 (Blk.inHeap s1 (by omega)) fun e=>HNE.out.1 e.symm).trans s1,(chg_blk hc5 (Blk.inHeap s2 (ndR_pos _ _)) HX2.out.2.2.2.1).trans s2,s3,s4,s5,s6.chg hc5 hq,s7.own s6 hc5 (fun b e=>by rw [e];exact HNE.out.2.1) hq⟩
   ·have b7:((x.kind:Int) == 7)=false:=by simp;omega
    have H7:=Lib.hid h7
    clear h7
    go_wp2_with fail
    go_meet
    exact ⟨ow,g,hg,fun h=>absurd h H7.out,fun _=>rfl,HB2.out.1,HB2.out.2.1,HX2.out.1,HB2.out.2.2.1,HB2.out.2.2.2,HX2.out.2.1,HT2.out,HN2.out⟩
  case rest =>
   obtain ⟨ow3,g3,hg3,h37,h3n,s1,s2,s3,s4,s5,s6,s7,s8⟩:=hcut
   have HS3:Hid (_∧_∧_∧_∧_∧_∧_∧_):=Lib.hid ⟨s1,s2,s3,s4,s5,s6,s7,s8⟩
   clear s1 s2 s3 s4 s5 s6 s7 s8 c0x c258 iX
   by_cases h8:x.kind=8
   ·have hgg:g3=g:=h3n (by omega)
    subst hgg
    have hRt:turnLoop s.length x (endsF s k) (giveV s k) (unsetV k) ((e - a)+x.mn+1) a e 0 g3=R:=by rw [← HR.out,withinV,if_neg (by omega),if_pos h8]
    have hts:turnsS s.length x (endsF s k) a 0 e=true:=by have:=HEN.out;unfold nodeS at this;rwa [if_neg (by omega),if_pos h8] at this
    have HRT:=Lib.hid (And.intro hRt hts)
    have b8:((x.kind:Int) == 8)=true:=by simp;omega
    have HK8:=Lib.hid h8
    clear hRt hts h37 h3n h8
    go_wp2_with fail
    go_loopg [2,13,14,15] ((e - a)+x.mn+1) (fun q v2 v13 _ _ wr=>∃ (a2 d:Nat) (g2:Spn) (ow4:Nat→Nat),q+d=(e - a)+x.mn+1∧v2=.int .i64 a2∧v13=.int .i64 d∧a2≤e∧(e - a2)+(x.mn - d) < q∧turnsS s.length x (endsF s k) a2 d e=true∧turnLoop s.length x (endsF s k) (giveV s k) (unsetV k) q a2 e d g2=R∧g2.length=20∧blk wr bS=spC g2∧blk wr bR=spC spZero∧blk wr bX=ndC x (.slice K k.len kc)∧ow4 bS=0∧ow4 bR=0∧ow4 bX=0∧DtAt s f tb ow4 wr∧DtNext f tb ow ow4 w wr)
    case atStart =>
     obtain ⟨s1,s2,s3,s4,s5,s6,s7,s8⟩:=HS3.out
     exact ⟨a,0,g3,ow3,by omega,rfl,rfl,hae,by omega,HRT.out.2,HRT.out.1,hg3,s1,s2,s3,s4,s5,s6,s7,s8⟩
    case round =>
     obtain ⟨a2,d,g2,ow4,hq,rfl,rfl,hae2,hm2,hts,htl,hg2,s1,s2,s3,s4,s5,s6,s7,s8⟩:=hrel
     have HS4:Hid (_∧_∧_∧_∧_∧_∧_∧_):=Lib.hid ⟨s1,s2,s3,s4,s5,s6,s7,s8⟩
     have c0x:=(Blk.cell s3 (ndR_pos _ _) 0).trans (ndA_0 _ _ _ _ _ _ _)
     have c259:=(Blk.cell s3 (ndR_pos _ _) 259).trans (ndA_259 _ _ _ _ _ _ _)
     have iX:InHeap bX wr:=Blk.inHeap s3 (ndR_pos _ _)
     have HQ:=Lib.hid hq
     have HM2:=Lib.hid hm2
     have HTS:=Lib.hid hts
     have HTL:=Lib.hid htl
     obtain ⟨Z,hZ⟩:∃ z,decide (a2 < e∨d < x.mn)=z:=⟨_,rfl⟩
     obtain ⟨wy,hwy⟩:∃ z,z=wr:=⟨_,rfl⟩
     subst hwy
     obtain ⟨gi,hgi⟩:∃ z,z=gk:=⟨_,rfl⟩
     subst hgi
     clear hq hm2 hts htl s1 s2 s3 s4 s5 s6 s7 s8
     go_upto_region 6 with fail
     go_cut [60] (fun v60 wx=>v60=.bool Z∧wx=wy)
     case first =>
      by_cases h1:a2 < e
      ·have h1b:decide (a2 < e)=true:=decide_eq_true h1
       have h1i:(a2:Int) < (e:Int):=by omega
       have hz:Z=true:=by rw [← hZ,decide_eq_true_eq];exact .inl h1
       clear hZ
       go_wp2_with fail
       go_meet
       exact ⟨by rw [hz],rfl⟩
      ·have h1b:decide (a2 < e)=false:=decide_eq_false h1
       have h1i:¬ (a2:Int) < (e:Int):=by omega
       by_cases h2:d < x.mn
       ·have h2b:decide (d < x.mn)=true:=decide_eq_true h2
        have h2i:(d:Int) < (x.mn:Int):=by omega
        have hz:Z=true:=by rw [← hZ,decide_eq_true_eq];exact .inr h2
        clear hZ
        go_wp2_with fail
        go_meet
        exact ⟨by rw [hz],rfl⟩
       ·have h2b:decide (d < x.mn)=false:=decide_eq_false h2
        have h2i:¬ (d:Int) < (x.mn:Int):=by omega
        have hz:Z=false:=by rw [← hZ,decide_eq_false_iff_not];omega
        clear hZ
        go_wp2_with fail
        go_meet
        exact ⟨by rw [hz],rfl⟩
     case rest =>
     obtain ⟨rfl,rfl⟩:=hcut
     have HZ:=Lib.hid hZ
     clear hZ c0x c259 iX
     cases Z with
     | false =>
      have hng:¬ (a2 < e∨d < x.mn):=by have:=HZ.out;rwa [decide_eq_false_iff_not] at this
      obtain ⟨q',hq'⟩:∃ q',gi=q'+1:=⟨gi - 1,by have:=HM2.out;omega⟩
      have hgR:g2=R:=by
       have:=HTL.out
       rw [hq',turnLoop,if_neg hng] at this
       exact this
      subst hgR
      have hsz2:(spC g2).size=20:=by rw [spC_size];exact hg2
      have hld:=loadSp_all wc bS (spC g2) HS4.out.1 hsz2
      have hst:=storeSp_all wc bR (spC g2) HS4.out.2.1 hz0 hsz2 (spC_one _)
      clear hng hq'
      go_wp2_with fail
      obtain ⟨s1,s2,s3,s4,s5,s6,s7,s8⟩:=HS4.out
      have hc:Chg (fun b=>b=bR) wc (setBlk wc bR (spC g2)):=chg_setBlkM (K:=fun b=>b=bR) rfl
      exact bodyPost_ret (results_sp 10 rfl rfl (Blk.get _ s2 (by omega)) hsz2) rfl ⟨ow4,rfl,s7.chg hc fun b e=>by rw [e];exact s5,s8.own s7 hc (fun b e=>by rw [e];exact HNE.out.2.2.1) fun b e=>by rw [e];exact s5⟩
     | true =>
      have hgo:a2 < e∨d < x.mn:=by have:=HZ.out;rwa [decide_eq_true_eq] at this
      obtain ⟨q',hq'⟩:∃ q',gi=q'+1:=⟨gi - 1,by have:=HM2.out;omega⟩
      have hls:=loop_spec (endsF_rises s k) hae2 hen HTS.out hgo
      have hmax:¬ (0≤x.mx∧x.mx≤d):=by
       rcases (turns_iff (endsF_rises s k) (by omega)).1 HTS.out with h | h
       ·omega
       ·exact h.1
      have htl:=HTL.out
      rw [hq',turnLoop,if_pos hgo] at htl
      obtain ⟨T,hT⟩:∃ z,longF (endsF s k a2) (fun q=>turnsS s.length x (endsF s k) q (d+1) e) a2 e=z:=⟨_,rfl⟩
      rw [hT] at hls htl
      have hrow:DrowC s f tb k:=drow_all hs hf _ k (Nat.le_refl _) hk9 HK.out
      have hcall:=hrow ow4 wc I ic (i+1) a2 HS4.out.2.2.2.2.2.2.1 (HIDS.out.next HS4.out.2.2.2.2.2.2.2.cl) HALL.out (by omega)
      have hd9:d≤3000:=by have:=HQ.out;omega
      have HLS:=Lib.hid hls
      have HMAX:=Lib.hid hmax
      have HTL2:=Lib.hid htl
      have HTE:=Lib.hid hT
      have HQ':=Lib.hid hq'
      clear hls hmax htl hT hrow hgo hq' HTL
      go_wp2_with fail
      (with_reducible refine hcall.mono ?_)
      rintro e9 w5 ⟨ow5,bL,rfl,hL,ho5,hf5,hT5,hN5⟩
      obtain ⟨s1,s2,s3,s4,s5,s6,s7,s8⟩:=HS4.out
      have HS5:Hid (_∧_∧_∧_∧_∧_∧_∧_∧_∧_):=Lib.hid ⟨hN5.blk s1 (by rw [spC_size];omega) (by rw [s4];exact Nat.zero_le _),hN5.blk s2 (by omega) (by rw [s5];exact Nat.zero_le _),hN5.blk s3 (ndR_pos _ _) (by rw [s6];exact Nat.zero_le _),(hN5.cl.same bS (Blk.inHeap s1 (by rw [spC_size];omega))).trans s4,(hN5.cl.same bR (Blk.inHeap s2 (by omega))).trans s5,(hN5.cl.same bX (Blk.inHeap s3 (ndR_pos _ _))).trans s6,hL,ho5,hT5,s8.trans hN5⟩
      obtain ⟨P,hP⟩:∃ z,endsF s k a2=z:=⟨_,rfl⟩
      have HP:=Lib.hid hP
      clear hcall s1 s2 s3 s4 s5 s6 s7 s8 hL ho5 hf5 hT5 hN5 hP
      go_upto_block 2 with fail
      go_cut [15] (fun v15 wx=>∃ ow6,v15=.int .i64 (T:Nat)∧blk wx bS=spC g2∧blk wx bR=spC spZero∧blk wx bX=ndC x (.slice K k.len kc)∧ow6 bS=0∧ow6 bR=0∧ow6 bX=0∧DtAt s f tb ow6 wx∧DtNext f tb ow ow6 w wx)
      case first =>
       go_wp2_with fail
       go_loopg [15] (e - a2) (fun q v15 wr=>∃ (t:Nat) (ow6:Nat→Nat),q+a2=t∧t≤e∧v15=.int .i64 t∧longF P (fun q=>turnsS s.length x (endsF s k) q (d+1) e) a2 t=T∧blk wr bS=spC g2∧blk wr bR=spC spZero∧blk wr bX=ndC x (.slice K k.len kc)∧ow6 bS=0∧ow6 bR=0∧ow6 bX=0∧blk wr bL=BA (s.length+1) P∧ow6 bL≤1∧DtAt s f tb ow6 wr∧DtNext f tb ow ow6 w wr)
       case atStart =>
        obtain ⟨s1,s2,s3,s4,s5,s6,s7,s8,s9,s10⟩:=HS5.out
        exact ⟨e,ow5,by omega,Nat.le_refl _,rfl,by rw [← HP.out];exact HTE.out,s1,s2,s3,s4,s5,s6,by rw [← HP.out];exact s7,s8,s9,s10⟩
       case round =>
        obtain ⟨t,ow6,hq,hte,rfl,hlt,s1,s2,s3,s4,s5,s6,s7,s8,s9,s10⟩:=hrel
        have HQ2:=Lib.hid hq
        have HLT2:=Lib.hid hlt
        have iF:=Blk.inHeap s7 (ba_pos _ _)
        have HS6:Hid (_∧_∧_∧_∧_∧_∧_∧_∧_∧_):=Lib.hid ⟨s1,s2,s3,s4,s5,s6,s7,s8,s9,s10⟩
        by_cases hta:a2 < t
        ·have htb:decide (a2 < t)=true:=decide_eq_true hta
         have hti:(a2:Int) < (t:Int):=by omega
         have ht2:(t:Int) < (s.length:Int)+1:=by omega
         have ht3:((t - 1:Nat):Int)=(t:Int) - 1:=by omega
         have HT3:=Lib.hid ht3
         have cF:=(Blk.cell s7 (ba_pos _ _) t).trans (BA_get (by omega))
         obtain ⟨pv,hpv⟩:∃ z,P t=z:=⟨_,rfl⟩
         rw [hpv] at cF
         have HPV:=Lib.hid hpv
         obtain ⟨wz,hwz⟩:∃ z,z=wr:=⟨_,rfl⟩
         subst hwz
         clear hq hlt s1 s2 s3 s4 s5 s6 s7 s8 s9 s10 hpv ht3
         cases pv with
         | false =>
          go_wp2_with fail
          go_roundg (gk - 1)
          case measure=>have:=HQ2.out;omega
          case rel =>
           obtain ⟨s1,s2,s3,s4,s5,s6,s7,s8,s9,s10⟩:=HS6.out
           exact ⟨t - 1,ow6,by have:=HQ2.out;omega,by omega,by rw [HT3.out],by rw [← longF_down hta (by rw [HPV.out];rfl)];exact HLT2.out,s1,s2,s3,s4,s5,s6,s7,s8,s9,s10⟩
         | true =>
          have hnd:DnodeC s f tb x k t (d+1):=dnode_all hs hf HX.out HK.out hk9 (by omega) (by omega) (fun h=>by have:=HMAX.out;omega)
          have hcall:=hnd ow6 wz i HS6.out.2.2.2.2.2.2.2.2.1 HN.out HALL.out
          rw [show ((d+1:Nat):Int)=(d:Int)+1 by omega,nodeT_turns HK8.out] at hcall
          have hei:(e:Int) < (s.length:Int)+1:=by omega
          clear hnd
          go_wp2_with fail
          (with_reducible refine hcall.mono ?_)
          rintro e9 w7 ⟨ow7,bV,rfl,hV,ho7,hf7,hT7,hN7⟩
          obtain ⟨s1,s2,s3,s4,s5,s6,s7,s8,s9,s10⟩:=HS6.out
          have HS7:Hid (_∧_∧_∧_∧_∧_∧_∧_∧_∧_):=Lib.hid ⟨hN7.blk s1 (by rw [spC_size];omega) (by rw [s4];exact Nat.zero_le _),hN7.blk s2 (by omega) (by rw [s5];exact Nat.zero_le _),hN7.blk s3 (ndR_pos _ _) (by rw [s6];exact Nat.zero_le _),(hN7.cl.same bS (Blk.inHeap s1 (by rw [spC_size];omega))).trans s4,(hN7.cl.same bR (Blk.inHeap s2 (by omega))).trans s5,(hN7.cl.same bX (Blk.inHeap s3 (ndR_pos _ _))).trans s6,hN7.blk s7 (ba_pos _ _) s8,(show ow7 bL≤1 by rw [hN7.cl.same bL (Blk.inHeap s7 (ba_pos _ _))];exact s8),hT7,s10.trans hN7⟩
          have cV:=(Blk.cell hV (ba_pos _ _) e).trans (BA_get (by omega))
          have iV:=Blk.inHeap hV (ba_pos _ _)
          obtain ⟨vv,hvv⟩:∃ z,turnsS s.length x (endsF s k) t (d+1) e=z:=⟨_,rfl⟩
          rw [hvv] at cV
          have HVV:=Lib.hid hvv
          clear hcall hV ho7 hf7 hT7 hN7 s1 s2 s3 s4 s5 s6 s7 s8 s9 s10 hvv cF iF
          cases vv with
          | false =>
           go_wp2_with fail
           go_roundg (gk - 1)
           case measure=>have:=HQ2.out;omega
           case rel =>
            obtain ⟨s1,s2,s3,s4,s5,s6,s7,s8,s9,s10⟩:=HS7.out
            exact ⟨t - 1,ow7,by have:=HQ2.out;omega,by omega,by rw [HT3.out],by rw [← longF_down hta (by rw [HPV.out,HVV.out];rfl)];exact HLT2.out,s1,s2,s3,s4,s5,s6,s7,s8,s9,s10⟩
          | true =>
           go_wp2_with fail
           go_meet
           obtain ⟨s1,s2,s3,s4,s5,s6,s7,s8,s9,s10⟩:=HS7.out
           exact ⟨ow7,by rw [← HLT2.out,longF_stop hta (by rw [HPV.out,HVV.out];rfl)],s1,s2,s3,s4,s5,s6,s9,s10⟩
        ·have htb:decide (a2 < t)=false:=decide_eq_false hta
         have hti:¬ (a2:Int) < (t:Int):=by omega
         clear hq hlt s1 s2 s3 s4 s5 s6 s7 s8 s9 s10
         go_wp2_with fail
         go_meet
         obtain ⟨s1,s2,s3,s4,s5,s6,s7,s8,s9,s10⟩:=HS6.out
         exact ⟨ow6,by rw [← HLT2.out,longF_low (by have:=HQ2.out;omega),show t=a2 by have:=HQ2.out;omega],s1,s2,s3,s4,s5,s6,s9,s10⟩
      case rest =>
       obtain ⟨ow6,rfl,s1,s2,s3,s4,s5,s6,s7,s8⟩:=hcut
       have hsz2:(spC g2).size=20:=by rw [spC_size];exact hg2
       have c261:=(Blk.cell s3 (ndR_pos _ _) 261).trans (ndA_261 _ _ _ _ _ _ _)
       have iX:InHeap bX wc:=Blk.inHeap s3 (ndR_pos _ _)
       have hsp2:span (spC g2) 0 20=spC g2:=span_all hsz2
       have hcall:=unset_anyD k.size k _ K kc g2 wc (Nat.le_refl _) hk9 HK.out (HKID.out.next s8.cl) hg2
       obtain ⟨U,hU⟩:∃ z,unsetV k g2=z:=⟨_,rfl⟩
       have hUl:U.length=20:=by rw [← hU,unset_len2];exact hg2
       rw [hU] at hcall
       have HU:=Lib.hid hU
       have HS6:Hid (_∧_∧_∧_∧_∧_∧_∧_):=Lib.hid ⟨s1,s2,s3,s4,s5,s6,s7,s8⟩
       clear s2 s3 s4 s5 s6 s7 s8 hU HS5 HS4
       go_wp2_with fail
       (with_reducible refine hcall.mono ?_)
       rintro e9 w8 ⟨rfl,hg8⟩
       obtain ⟨t1,t2,t3,t4,t5,t6,t7,t8⟩:=HS6.out
       have hgc:=HGIVE.out ow6 w8 I ic (i+1) a2 T U (t7.grows hg8) (HIDS.out.next (t8.trans (DtNext.of_grows f tb ow6 hg8)).cl) HALL.out HLS.out.2.2.1 (Nat.le_trans HLS.out.2.2.2.1 hen) (by have:=HLS.out.1;rw [← HP.out] at *;exact this) hUl
       obtain ⟨G,hG⟩:∃ z,giveV s k a2 T U=z:=⟨_,rfl⟩
       have hGl:G.length=20:=by rw [← hG,give_len];exact hUl
       rw [hG] at hgc
       have HGE:=Lib.hid hG
       have hszG:(spC G).size=20:=by rw [spC_size];exact hGl
       have hov:over (spC g2) 0 (spC G)=spC G:=over_all (by omega)
       have HS8:Hid (_∧_∧_∧_∧_∧_∧_∧_):=Lib.hid ⟨blkG t1 (by omega) hg8,blkG t2 (by omega) hg8,blkG t3 (ndR_pos _ _) hg8,t4,t5,t6,t7.grows hg8,t8.trans (DtNext.of_grows f tb ow6 hg8)⟩
       clear hcall hg8 t1 t2 t3 t4 t5 t6 t7 t8 s1 c261 iX hsp2 hG HS6
       go_wp2_with fail
       (with_reducible refine hgc.mono ?_)
       rintro e9 w9 ⟨ow9,rfl,hT9,hN9⟩
       obtain ⟨t1,t2,t3,t4,t5,t6,t7,t8⟩:=HS8.out
       have b1:=hN9.blk t1 (by omega) (by rw [t4];exact Nat.zero_le _)
       have HS9:Hid (_∧_∧_∧_∧_∧_∧_∧_):=Lib.hid ⟨b1,hN9.blk t2 (by omega) (by rw [t5];exact Nat.zero_le _),hN9.blk t3 (ndR_pos _ _) (by rw [t6];exact Nat.zero_le _),(hN9.cl.same bS (Blk.inHeap t1 (by omega))).trans t4,(hN9.cl.same bR (Blk.inHeap t2 (by omega))).trans t5,(hN9.cl.same bX (Blk.inHeap t3 (ndR_pos _ _))).trans t6,hT9,t8.trans hN9⟩
       clear hgc hT9 hN9 t1 t2 t3 t4 t5 t6 t7 t8 HS8
       go_wp2_with fail
       go_roundg (gi - 1)
       case measure=>have:=HQ'.out;omega
       case rel =>
        obtain ⟨t1,t2,t3,t4,t5,t6,t7,t8⟩:=HS9.out
        have hc:Chg (fun b=>b=bS) w9 (setBlk w9 bS (spC G)):=chg_setBlkM (K:=fun b=>b=bS) rfl
        have hq:∀ b,b=bS→ow9 b=0:=fun b e=>by rw [e];exact t4
        have hls:=HLS.out
        have htl:=HTL2.out
        rw [HU.out,HGE.out] at htl
        exact ⟨T,d+1,G,ow9,by have:=HQ.out;have:=HQ'.out;omega,rfl,by go_num,hls.2.2.2.1,by have:=HM2.out;have:=HQ'.out;omega,hls.2.1,by rw [HQ'.out,Nat.add_sub_cancel];exact htl,hGl,Blk.get _ t1 (by omega),(chg_blk hc (Blk.inHeap t2 (by omega)) fun e=>HNE.out.1 e.symm).trans t2,(chg_blk hc (Blk.inHeap t3 (ndR_pos _ _)) HX2.out.2.2.2.1).trans t3,t4,t5,t6,t7.chg hc hq,t8.own t7 hc (fun b e=>by rw [e];exact HNE.out.2.1) hq⟩
   ·have b8:((x.kind:Int) == 8)=false:=by simp;omega
    have hgR:g3=R:=by
     by_cases h7:x.kind=7
     ·exact h37 h7
     ·rw [h3n h7,← HR.out,withinV,if_neg h7,if_neg h8]
    subst hgR
    clear h37 h3n h8
    go_wp2_with fail
    go_loopg [2,13,14,15] 0 (fun q v2 v13 _ _ wr=>v13=.int .i64 0∧wr=wc)
    case atStart=>exact ⟨rfl,rfl⟩
    case round =>
     obtain ⟨rfl,rfl⟩:=hrel
     have hsz3:(spC g3).size=20:=by rw [spC_size];exact hg3
     have hld:=loadSp_all wr bS (spC g3) HS3.out.1 hsz3
     have hst:=storeSp_all wr bR (spC g3) HS3.out.2.1 hz0 hsz3 (spC_one _)
     have c0x:=(Blk.cell HS3.out.2.2.1 (ndR_pos _ _) 0).trans (ndA_0 _ _ _ _ _ _ _)
     have iX:InHeap bX wr:=Blk.inHeap HS3.out.2.2.1 (ndR_pos _ _)
     go_wp2_with fail
     obtain ⟨s1,s2,s3,s4,s5,s6,s7,s8⟩:=HS3.out
     have hc:Chg (fun b=>b=bR) wr (setBlk wr bR (spC g3)):=chg_setBlkM (K:=fun b=>b=bR) rfl
     exact bodyPost_ret (results_sp 10 rfl rfl (Blk.get _ s2 (by omega)) hsz3) rfl ⟨ow3,rfl,s7.chg hc fun b e=>by rw [e];exact s5,s8.own s7 hc (fun b e=>by rw [e];exact HNE.out.2.2.1) fun b e=>by rw [e];exact s5⟩
end Go.Proofs.YtnjagecmhdagkaaGreatDoor
