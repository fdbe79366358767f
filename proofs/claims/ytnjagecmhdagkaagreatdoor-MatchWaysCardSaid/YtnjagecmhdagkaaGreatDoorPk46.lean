/-
 Matches, the document's way by all ways: a repetition's turns, walked.
-/
import Derived.Test.YtnjagecmhdagkaaGreatDoorPk45
set_option linter.unusedSimpArgs false
set_option linter.unusedVariables false
set_option maxRecDepth 3000
namespace Go.Proofs.YtnjagecmhdagkaaGreatDoor
open Go.RowKit
attribute [local go_sem ↓] zeroNodeR ldNodeR_eq stNodeR_eq ldSp_eq stSp_eq zeroSp bldSt_eq bldSlSt_eq bldSlWyR_eq
attribute [local go_sem] loadNodeR storeNodeR storeNodeR_if ndA_one_slice loadSp storeSp storeSp_if spC_one bldSt_two bldSt_three bldSlSt_run bldSlWyR_run
section
variable {s:List UInt8} {most:Int} {sb B:Nat}
theorem ndC_pos (x:NdV) (v:Value):0 < (ndC x v).size:=by simp [ndA_size]
theorem DaPost.drewX {s:List UInt8} {most:Int} {sb:Nat} {w w' w2:World} {e:Ending} {R:List St × Nat} (h:DaPost s most sb w R e w') (hg:Grows w' w2):DaPost s most sb w R e w2:=by
 obtain ⟨v,h1,h2,h3,h4⟩:=h
 exact ⟨v,h1,h2.grows hg,blkG h3 (by simp [daC]) hg,h4.trans (Chg.of_grows hg)⟩
theorem turnR_stop {x:NdV} {R:Nat→Spn→Nat→List St × Nat} {U:Spn→Spn} {F d a n:Nat} {g:Spn} (h:(0≤x.mx∧x.mx≤(d:Int))∨ovN most n=true):turnR most x R U (F+1) d a g n=((if x.mn≤d then [(a,g,Wy.nil)] else []),n):=by
 conv=>lhs;unfold turnR
 rw [if_pos h]
theorem turnR_go {x:NdV} {R:Nat→Spn→Nat→List St × Nat} {U:Spn→Spn} {F d a n:Nat} {g:Spn} (h:¬ ((0≤x.mx∧x.mx≤(d:Int))∨ovN most n=true)) :
  turnR most x R U (F+1) d a g n=((if x.mn≤d then [(a,g,Wy.nil)] else [])++(eachR (fun e g2 n=>turnR most x R U F (d+1) e g2 n) (fun t=>.cons (t.1 - a) t.2.2 .nil) ((R a (U g) n).1.filter fun t=>!(decide (x.mn≤d) && decide (t.1=a))) (R a (U g) n).2).1,
   (eachR (fun e g2 n=>turnR most x R U F (d+1) e g2 n) (fun t=>.cons (t.1 - a) t.2.2 .nil) ((R a (U g) n).1.filter fun t=>!(decide (x.mn≤d) && decide (t.1=a))) (R a (U g) n).2).2):=by
 conv=>lhs;unfold turnR
 rw [if_neg h]
set_option maxRecDepth 100000 in
set_option maxHeartbeats 8000000 in
theorem turns_anyD (hs:s.length≤60000) (hB:∀ n,ovN most n=false→n+1≤B) (hB9:B≤900000) {x:NdV} {k:Fr} (hx:NdOk x) (hk:AllNd k) (hk9:k.size≤1000) (hrow:RowD s most sb B k):∀ F d a,fuelK s.length x a d≤F→d+F≤80000→TurnD s most sb B x k F d a:=by
 intro F
 induction F with
 | zero=>intro d a h;unfold fuelK at h;omega
 | succ F ih =>
 intro d a hF hdF A cap n g w hA ha hg hsb hn
 have hgl:=hg.len
 have hsz:(spC g).size=20:=by rw [spC_size];exact hgl
 have isb:sb < w.heap.size:=Blk.inHeap hsb (by simp [daC])
 have hmn:=hx.mn
 have hmx:=hx.mx
 have HA:=Lib.hid hA
 have HG:=Lib.hid hg
 have HB:=Lib.hid hB
 have HX:=Lib.hid hx
 have HK:=Lib.hid hk
 have HROW:=Lib.hid hrow
 have HIH:=Lib.hid ih
 have HF:=Lib.hid hF
 have hF8:F≤80000:=by omega
 have hd8:d≤80000:=by omega
 clear hA hg hB hx hk hrow ih hF
 go_enter Tryz.func82,Tryz.ntmps82
 go_upto_region 1 with fail
 have HT:=Lib.hid (TwoAt.start w (ndC x (.slice A k.len cap)) (spC g) 91 35)
 generalize (w.alloc (Obj.cells (ndC x (Value.slice A k.len cap)) 91)).alloc (Obj.cells (spC g) 35)=w1 at *
 have hz1:=HT.out.size
 obtain ⟨bX,hbX⟩:∃ z,z=w.heap.size:=⟨_,rfl⟩
 obtain ⟨bG,hbG⟩:∃ z,z=w.heap.size+1:=⟨_,rfl⟩
 rw [← hbG,← hbX]
 generalize Value.agg (ndC x (Value.slice A k.len cap))=V1
 have HX1:Hid (blk w1 bX=ndC x (.slice A k.len cap)):=Lib.hid (by rw [hbX];exact HT.out.fst)
 have HG1:Hid (blk w1 bG=spC g):=Lib.hid (by rw [hbG];exact HT.out.snd)
 have HSB1:=Lib.hid (blkG hsb (by simp [daC]) HT.out.grows)
 have HGR1:=Lib.hid HT.out.grows
 obtain ⟨base,hbase⟩:∃ z,z=w1.heap.size:=⟨_,rfl⟩
 have HBB:Hid (w.heap.size≤bX∧w.heap.size≤bG∧bX < base∧bG < base∧base=w1.heap.size∧w.heap.size≤base):=Lib.hid (by omega)
 have isb2:sb < base:=by omega
 have nX:bX≠sb:=by omega
 have nG:bG≠sb:=by omega
 have e1:=(Blk.cell HX1.out (ndC_pos _ _) 259).trans (ndA_259 _ _ _ _ _ _ _)
 clear HT hz1 hbX hbG hbase isb hsb
 obtain ⟨self,hself⟩:∃ z,(if x.mn≤d then [(a,g,Wy.nil)] else [])=z:=⟨_,rfl⟩
 have HSELF:=Lib.hid hself
 clear hself
 go_upto_if 20 with fail
 go_cut [11] (fun v11 wx=>OwnSt base wx v11 self∧Grows w1 wx)
 case first =>
  by_cases hmd:x.mn≤d
  ·have hse:self=[(a,g,.nil)]:=by rw [← HSELF.out,if_pos hmd]
   have HSE:=Lib.hid hse
   have q4:=loadSp_all w1 bG (spC g) HG1.out hsz
   have hzb:base≤w1.heap.size:=by have:=HBB.out;omega
   clear hse
   go_wp2_with (at_builtin;go_must (refine wpList_append_blk elemSt (.tmp 21) (.tmp 25) base (.slice none 0 0) 0 [] w1.heap.size (stC a g (.slice none 0 0)) rfl rfl (by simp [Act.eval,Act.put]) (World.ownsRow_nil _ _ _ _) (by simp [Act.eval,Act.put]) (blk_alloc_at _ _ _ _ rfl) (stC_size hgl) (stC_one rfl) (by omega) (Nat.le_trans hzb (by simp)) ?_);intro e9 cap9 w9 ho9 hc9 hn9)
   have HO9:=Lib.hid (OwnSt.push (t:=(a,g,.nil)) (A:=none) (cp:=0) (xs:=[]) (L:=[]) rfl hgl (WyAt.zero _ _) ho9 hc9 hn9)
   have HC9:=Lib.hid hc9
   clear ho9 hc9 hn9
   go_wp2_with fail
   go_meet
   exact ⟨by rw [HSE.out];exact HO9.out,Chg.grows (n:=0) ((Grows.refl _).alloc _) HC9.out fun b e=>by cases e⟩
  ·have hmb:decide (x.mn≤d)=false:=decide_eq_false hmd
   have hse:self=[]:=by rw [← HSELF.out,if_neg hmd]
   have HSE:=Lib.hid hse
   clear hse
   go_wp2_with fail
   go_meet
   exact ⟨by rw [HSE.out];exact OwnSt.nil _ _,Grows.refl _⟩
 case rest =>
  obtain ⟨ho2,hg2⟩:=hcut
  have HO2:=Lib.hid ho2
  have HX2:=Lib.hid (blkG HX1.out (ndC_pos _ _) hg2)
  have HGB2:=Lib.hid (blkG HG1.out (by omega) hg2)
  have HSB2:=Lib.hid (blkG HSB1.out (by simp [daC]) hg2)
  have HGR2:=Lib.hid hg2
  have hover:=over_anyD wc sb s n most HSB2.out
  obtain ⟨O,hO⟩:∃ O,ovN most n=O:=⟨_,rfl⟩
  rw [hO] at hover
  have HOV:=Lib.hid hO
  clear e1
  have e1:=(Blk.cell HX2.out (ndC_pos _ _) 260).trans (ndA_260 _ _ _ _ _ _ _)
  clear hg2 ho2 hO HG1 HSB1
  go_upto_region 4 with fail
  obtain ⟨w2,hw2⟩:∃ z,z=wc:=⟨_,rfl⟩
  subst hw2
  go_cut [39] (fun v39 wx=>v39=.bool ((decide (0≤x.mx) && decide (x.mx≤d)) || O)∧Grows w2 wx)
  case first =>
   by_cases h1:0≤x.mx
   ·by_cases h2:x.mx≤(d:Int)
    ·have hB:((decide (0≤x.mx) && decide (x.mx≤(d:Int))) || O)=true:=by simp [h1,h2]
     have HB9:=Lib.hid hB
     clear hB
     go_wp2_with fail
     go_meet
     exact ⟨by rw [HB9.out],Grows.refl _⟩
    ·have h2b:decide (x.mx≤(d:Int))=false:=decide_eq_false h2
     have hB:((decide (0≤x.mx) && decide (x.mx≤(d:Int))) || O)=O:=by simp [h2]
     have HB9:=Lib.hid hB
     clear hB h2
     go_wp2_with fail
     (with_reducible refine hover.mono ?_)
     rintro e9 w3 ⟨rfl,hg3⟩
     go_wp2_with fail
     go_meet
     exact ⟨by rw [HB9.out],hg3⟩
   ·have h1b:decide (0≤x.mx)=false:=decide_eq_false h1
    have hB:((decide (0≤x.mx) && decide (x.mx≤(d:Int))) || O)=O:=by simp [h1]
    have HB9:=Lib.hid hB
    clear hB h1
    go_wp2_with fail
    (with_reducible refine hover.mono ?_)
    rintro e9 w3 ⟨rfl,hg3⟩
    go_wp2_with fail
    go_meet
    exact ⟨by rw [HB9.out],hg3⟩
  case rest =>
   obtain ⟨rfl,hg3⟩:=hcut
   have HO3:=Lib.hid (HO2.out.grows hg3)
   have HX3:=Lib.hid (blkG HX2.out (ndC_pos _ _) hg3)
   have HGB3:=Lib.hid (blkG HGB2.out (by omega) hg3)
   have HSB3:=Lib.hid (blkG HSB2.out (by simp [daC]) hg3)
   have HGR3:=Lib.hid (HGR2.out.trans hg3)
   clear hover e1 hg3 HO2 HX2 HGB2 HSB2 HGR2
   by_cases hB:((decide (0≤x.mx) && decide (x.mx≤(d:Int))) || O)=true
   ·have hst:(0≤x.mx∧x.mx≤(d:Int))∨ovN most n=true:=by
     rw [HOV.out]
     simpa only [Bool.or_eq_true,Bool.and_eq_true,decide_eq_true_eq] using hB
    have HR:=Lib.hid (turnR_stop (R:=fun a g n=>rowR10 s most k a g n) (U:=unsetV k) (F:=F) (a:=a) (g:=g) hst)
    rw [hB]
    clear hB hst
    go_wp2_with fail
    go_ret
    unfold DaPostF
    rw [HR.out,HSELF.out]
    exact ⟨_,rfl,HO3.out.at.mono (fun b _ hb=>by have:=HBB.out;omega),HSB3.out,Chg.of_grows (HGR1.out.trans HGR3.out),HO3.out.free⟩
   ·have hBf:((decide (0≤x.mx) && decide (x.mx≤(d:Int))) || O)=false:=by simpa using hB
    have hcn:¬ ((0≤x.mx∧x.mx≤(d:Int))∨ovN most n=true):=by
     rw [HOV.out]
     intro h
     apply hB
     simpa only [Bool.or_eq_true,Bool.and_eq_true,decide_eq_true_eq] using h
    rw [hBf]
    have HST:Hid (∀ e,a≤e→e≤s.length→(a < e∨d < x.mn)→TurnD s most sb B x k F (d+1) e):=Lib.hid (fun e h1 h2 h3=>HIH.out (d+1) e (by
     have h4:=HF.out
     unfold fuelK at h4 ⊢
     by_cases hm:x.mx < 0
     ·rw [if_pos hm] at h4 ⊢;omega
     ·rw [if_neg hm] at h4 ⊢;omega) (by omega))
    have hgo:=turnR_go (R:=fun a g n=>rowR10 s most k a g n) (U:=unsetV k) (F:=F) (a:=a) (g:=g) hcn
    rw [HSELF.out] at hgo
    have hcnt:=turn_cnt (most:=most) (x:=x) (R:=fun a g n=>rowR10 s most k a g n) (U:=unsetV k) (fun a g n=>row_cnt k a g n) (F+1) d a g n
    have htop:=turn_top (most:=most) (x:=x) (R:=fun a g n=>rowR10 s most k a g n) (U:=unsetV k) (B:=B) (fun a g n h=>row_top (s:=s) HB.out k a g n h) (F+1) d a g n hn
    rw [hgo] at hcnt htop
    have hrin:=row_in (s:=s) (most:=most) k a (unsetV k g) n HK.out ha (unset_inS HK.out HG.out)
    have hrtop:=row_top (s:=s) HB.out k a (unsetV k g) n hn
    have ibX:InHeap bX wc:=Blk.inHeap HX3.out (ndC_pos _ _)
    have ibG:InHeap bG wc:=Blk.inHeap HGB3.out (by omega)
    have k1:=(Blk.cell HX3.out (ndC_pos _ _) 261).trans (ndA_261 _ _ _ _ _ _ _)
    have hgr0:Grows w wc:=HGR1.out.trans HGR3.out
    have hunL:=unset_inS HK.out HG.out
    have HGO:=Lib.hid hgo
    have HCNT:=Lib.hid hcnt
    have HTOP:=Lib.hid htop
    have HRIN:=Lib.hid hrin
    have HRTOP:=Lib.hid hrtop
    have HGR0:=Lib.hid hgr0
    have HRW:Hid (∀ W,Grows wc W→Calls Tryz.prog 31 #[.pointer (some ⟨sb,0,none⟩),.slice A k.len cap,.int .i64 a,spV (unsetV k g)] W (DaPost s most sb wc (rowR10 s most k a (unsetV k g) n))):=Lib.hid fun W hW=>(HROW.out A cap a n (unsetV k g) W (HA.out.grows (HGR0.out.trans hW)) ha hunL (blkG HSB3.out (by simp [daC]) hW) hn).mono fun e w' h=>h.weak.late hW
    have HUN:Hid (∀ W,Grows wc W→Calls Tryz.prog 81 #[.slice A k.len cap,spV g] W fun e w'=>e=.returned (spV (unsetV k g))∧Grows wc w'):=Lib.hid fun W hW=>(unset_anyD k.size k (fun b=>b≠sb) A cap g W (Nat.le_refl _) hk9 HK.out (HA.out.grows (HGR0.out.trans hW)) hgl).mono fun e w' ⟨h1,h2⟩=>⟨h1,hW.trans h2⟩
    have HSA:Hid (∀ w',Chg (fun b=>b=sb) wc w'→(w'.cell? ⟨bX,261,none⟩=some (.slice A k.len cap)∧w'.rangeAt bG 0 (spC g).toList)):=Lib.hid fun w' hc=>⟨cellC k1 hc nX,fun j v hj=>by rw [Nat.zero_add];exact cellC ((Blk.cell HGB3.out (by omega) j).trans (by rw [← Array.getElem?_toList];exact hj)) hc nG⟩
    have hu23:=Tryz.underlying35
    have hi23:(Tryz.prog.info? 35).map (·.size)=some (spC g).toList.length:=by rw [Array.length_toList,hsz];kernel_rfl
    clear hB hBf hcn hgo hcnt htop hrin hrtop hgr0 k1
    go_upto_region 6 with fail
    obtain ⟨wb,hwb⟩:∃ z,z=wc:=⟨_,rfl⟩
    subst hwb
    go_cut [12] (fun v12 wx=>DaPost s most sb wb (rowR10 s most k a (unsetV k g) n) (.returned v12) wx)
    case first =>
     go_region_held3 (fun w'=>w'.cell? ⟨bX,261,none⟩=some (.slice A k.len cap)∧w'.rangeAt bG 0 (spC g).toList)
      (first
       | (refine HSA.out _ (Chg.of_grows ?_);(repeat' first | exact GA.out | exact Grows.refl _ | refine Grows.drewN ?_ _ | refine Grows.drew ?_);done)
       | (refine HSA.out _ ?_;(repeat' first | exact CB.out | refine chgDrewN ?_ _ | refine chgDrew ?_);done))
      (first
       | (go_at_call 81;(with_reducible refine Calls.mono (HUN.out _ ?_) ?_);(repeat' first | exact Grows.refl _ | refine Grows.drewN ?_ _ | refine Grows.drew ?_);rintro e9 wA ⟨rfl,hGA⟩;have GA:=Lib.hid hGA;clear hGA)
       | (go_at_call 31;(with_reducible refine Calls.mono (HRW.out _ ?_) ?_);(repeat' first | exact GA.out | refine Grows.drewN ?_ _ | refine Grows.drew ?_);rintro e9 wB ⟨v,rfl,hPB⟩;have PB:=Lib.hid hPB;have CB:=Lib.hid hPB.2.2;clear hPB))
     all_goals (
      go_wp2_with fail
      go_meet
      exact DaPost.drewX ⟨v,rfl,PB.out⟩ (by repeat' first | exact Grows.refl _ | refine Grows.drewN ?_ _ | refine Grows.drew ?_))
    case rest =>
    have hpost:=hcut
    obtain ⟨w4,hw4⟩:∃ z,z=wc:=⟨_,rfl⟩
    subst hw4
    clear hcut hi23 hu23 ibX ibG HSA HUN HRW HROW
    obtain ⟨N,hN⟩:∃ z,rowR10 s most k a (unsetV k g) n=z:=⟨_,rfl⟩
    rw [hN] at hpost HRIN HRTOP HGO HCNT HTOP
    obtain ⟨v,e9,hS,hsb4,hc4⟩:=hpost
    injection e9 with e9
    subst e9
    obtain ⟨L1,hL1⟩:∃ z,N.1=z:=⟨_,rfl⟩
    obtain ⟨m0,hm0⟩:∃ z,N.2=z:=⟨_,rfl⟩
    rw [hL1] at hS HRIN HGO HCNT HTOP
    rw [hm0] at hsb4 HRTOP HGO HCNT HTOP
    obtain ⟨K,hK⟩:∃ K:Nat→Spn→Nat→List St × Nat,K=fun e g2 n=>turnR most x (fun a g n=>rowR10 s most k a g n) (unsetV k) F (d+1) e g2 n:=⟨_,rfl⟩
    obtain ⟨fw,hfw⟩:∃ f:St→Wy,f=fun t=>Wy.cons (t.1 - a) t.2.2 .nil:=⟨_,rfl⟩
    obtain ⟨P,hP⟩:∃ P:St→Bool,P=fun t=>!(decide (x.mn≤d) && decide (t.1=a)):=⟨_,rfl⟩
    rw [← hK,← hfw,← hP] at HGO HCNT HTOP
    have HKE:=Lib.hid (And.intro hK (And.intro hfw hP))
    clear hK hfw hP hN hL1 hm0
    have hz4:=hc4.size
    have hbw:base≤wb.heap.size:=by have:=HBB.out;have:=HGR3.out.below.size;omega
    have HS:=Lib.hid (hS.mono (ok2:=fun b=>base≤b∧u11.ownBlock≠some b) (fun b _ hb=>⟨by omega,fun e=>by have:=(HO3.out.own e).2;omega⟩))
    have HO4:=Lib.hid (HO3.out.chg hc4 fun b h1 _ (e:b=sb)=>by omega)
    have HC4:Hid (Chg (fun b=>b=sb) w1 w4):=Lib.hid ((Chg.of_grows HGR3.out).trans hc4)
    have HSB4:=Lib.hid hsb4
    obtain ⟨A1,cap1,xs1,rfl,hsl1,-⟩:=hS
    have h63:=hsl1.cap63
    have hL9:L1.length≤cap1:=hsl1.le
    clear hsb4 hc4 hsl1 hz4 hbw HO3 HX3 HGB3 HSB3
    go_wp2_with fail
    go_loopg [11,13] L1.length (fun q v11 v13 wr=>∃ (i:Nat) (a1 c1:List St),q+i=L1.length∧v13=.int .i64 i∧L1=a1++c1∧a1.length=i∧OwnSt base wr v11 (self++(eachR K fw (a1.filter P) m0).1)∧SsAt (fun b=>base≤b∧v11.ownBlock≠some b) wr (.slice A1 L1.length cap1) L1∧blk wr sb=daC s (eachR K fw (a1.filter P) m0).2 most∧Chg (fun b=>b=sb) w1 wr)
    case atStart=>exact ⟨0,[],L1,by omega,rfl,rfl,rfl,by rw [show (eachR K fw (([]:List St).filter P) m0).1=[] from rfl,List.append_nil];exact HO4.out,HS.out,HSB4.out,HC4.out⟩
    case round =>
     obtain ⟨i,a1,c1,hq,rfl,hL,hai,hown,hss,hsbr,hcr⟩:=hrel
     obtain ⟨m1,hm1⟩:∃ z,(eachR K fw (a1.filter P) m0).2=z:=⟨_,rfl⟩
     obtain ⟨O1,hO1⟩:∃ z,self++(eachR K fw (a1.filter P) m0).1=z:=⟨_,rfl⟩
     rw [hm1] at hsbr
     rw [hO1] at hown
     have HM:=Lib.hid (And.intro hm1 hO1)
     have HQ:=Lib.hid hq
     have HOWN:=Lib.hid hown
     have HSS:=Lib.hid hss
     have HSBR:=Lib.hid hsbr
     have HCR:=Lib.hid hcr
     cases c1 with
     | nil =>
      have hiL:i=L1.length:=by rw [hL,List.append_nil];exact hai.symm
      have haL:a1=L1:=by rw [hL,List.append_nil]
      have HE:=Lib.hid haL
      clear hq hown hss hsbr hcr hL hai haL hm1 hO1
      subst hiL
      go_wp2_with fail
      go_ret
      unfold DaPostF
      rw [HGO.out,← HE.out,HM.out.1,HM.out.2]
      exact ⟨_,rfl,HOWN.out.at.mono (fun b _ hb=>by have:=HBB.out;omega),HSBR.out,(Chg.of_grows HGR1.out).trans HCR.out,HOWN.out.free⟩
     | cons t c1 =>
      have hil:i < L1.length:=by rw [hL,List.length_append,hai];simp
      have i1:(i:Int) < (L1.length:Int):=by omega
      obtain ⟨b2,o2,cp2,e2,ib2,hok2,-,-⟩:=hss.form (by omega)
      injection e2 with e2 e3 e4
      subst e2
      subst e4
      obtain ⟨At,ct,hN⟩:=hss.nth hL
      rw [hai] at hN
      obtain ⟨wx,hwx⟩:∃ z,z=wr:=⟨_,rfl⟩
      subst hwx
      have ht:=HRIN.out t (by rw [hL];simp)
      have HXr:Hid (blk wx bX=ndC x (.slice A k.len cap)):=Lib.hid ((chg_blk hcr (by have:=HBB.out;omega) nX).trans HX1.out)
      have e1:=(Blk.cell HXr.out (ndC_pos _ _) 259).trans (ndA_259 _ _ _ _ _ _ _)
      have ibX:InHeap bX wx:=Blk.inHeap HXr.out (ndC_pos _ _)
      have d0:=hN.c0
      have hta1:=ht.1
      have hta2:=ht.2.1
      have HT9:=Lib.hid ht
      have HN1:=Lib.hid hN
      have HL:=Lib.hid (And.intro hL hai)
      have h221:b2≠sb:=by have:=hok2.1;omega
      obtain ⟨tv,htv⟩:∃ z,t.1=z:=⟨_,rfl⟩
      have HTV:=Lib.hid htv
      rw [htv] at d0 hta1 hta2
      clear hq hown hss hsbr hcr hL hai hm1 hO1 ht hN htv
      go_upto_region 10 with fail
      go_cut [68] (fun v68 wz=>v68=.bool (decide (x.mn≤d) && decide (tv=a))∧Grows wx wz)
      case first =>
       by_cases hmd:x.mn≤d
       ·have hmb:decide (x.mn≤d)=true:=decide_eq_true hmd
        obtain ⟨B0,hB0⟩:∃ z,decide (tv=a)=z:=⟨_,rfl⟩
        have hB1:((tv:Int) == (a:Int))=B0:=by rw [← hB0];cases h:decide (tv=a) <;> simp at h ⊢ <;> omega
        go_wp2_with fail
        go_meet
        exact ⟨by rw [hmb,hB0,Bool.true_and],Grows.refl _⟩
       ·have hmb:decide (x.mn≤d)=false:=decide_eq_false hmd
        go_wp2_with fail
        go_meet
        exact ⟨by rw [hmb,Bool.false_and],Grows.refl _⟩
      case rest =>
       obtain ⟨rfl,hg68⟩:=hcut
       obtain ⟨wy,hwy⟩:∃ z,z=wc:=⟨_,rfl⟩
       subst hwy
       have HOWN2:=Lib.hid (HOWN.out.grows hg68)
       have HSS2:=Lib.hid (HSS.out.grows hg68)
       have HSBR2:=Lib.hid (blkG HSBR.out (by simp [daC]) hg68)
       have HCR2:=Lib.hid (HCR.out.trans (Chg.of_grows hg68))
       have HN2:=Lib.hid (HN1.out.grows hg68)
       have HXr2:=Lib.hid (blkG HXr.out (ndC_pos _ _) hg68)
       clear hg68 HOWN HSS HSBR HCR HN1 HXr e1 d0 ibX ib2
       cases hBt:(decide (x.mn≤d) && decide (tv=a)) with
       | true =>
        have hPt:P t=false:=by rw [HKE.out.2.2];simp only [HTV.out,hBt];rfl
        have hflt:(a1++[t]).filter P=a1.filter P:=by rw [List.filter_append];simp [hPt]
        have HFL:=Lib.hid hflt
        clear hBt hPt hflt
        go_wp2_with fail
        go_roundg (gk - 1)
        case measure=>have:=HQ.out;omega
        case rel=>exact ⟨i+1,a1++[t],c1,by have:=HQ.out;omega,by go_num,by rw [List.append_assoc];exact HL.out.1,by rw [List.length_append,HL.out.2];rfl,by rw [HFL.out,HM.out.2];exact HOWN2.out,HSS2.out,by rw [HFL.out,HM.out.1];exact HSBR2.out,HCR2.out⟩
       | false =>
        have hPt:P t=true:=by rw [HKE.out.2.2];simp only [HTV.out,hBt];rfl
        have hflt:∀ l:List St,(a1++t::l).filter P=a1.filter P++t::l.filter P:=fun l=>by rw [List.filter_append,List.filter_cons,if_pos hPt]
        have HFL:=Lib.hid hflt
        have hcase:a < tv∨d < x.mn:=by
         simp only [Bool.and_eq_false_iff,decide_eq_false_iff_not] at hBt
         omega
        have HTURN:=Lib.hid (HST.out tv hta1 hta2 hcase)
        obtain ⟨D,hD⟩:∃ D:Nat,(tv:Int) - (a:Int)=(D:Int):=⟨tv - a,by omega⟩
        have hD2:tv - a=D:=by omega
        have HD2:=Lib.hid hD2
        have hD9:D≤60000:=by omega
        have hwD:IntKind.i64.wrap (D:Int)=(D:Int):=IntWalk.i64_in _ (by omega)
        have d0:=HN2.out.c0
        rw [HTV.out] at d0
        have d21:=HN2.out.c21
        obtain ⟨p1,hp1⟩:∃ z,t.2.2=z:=⟨_,rfl⟩
        rw [hp1] at d21
        have HP1:=Lib.hid hp1
        have ib2:InHeap b2 wy:=HN2.out.inh
        have DD:=Lib.hid (And.intro d0 d21)
        clear hBt hPt hflt hcase hD2 hp1
        go_upto_region 11 with fail
        go_cut [14] (fun v14 wz=>∃ bT,v14=.pointer (some ⟨bT,0,none⟩)∧blk wz bT=#[.int .i64 D,.slice At p1.len ct]∧wy.heap.size≤bT∧Grows wy wz)
        case first =>
         go_region_law (fail)
         all_goals (
          go_wp2_with fail
          go_meet
          exact ⟨_,rfl,by first | exact blk_alloc_at _ _ _ _ rfl | (rw [hwD];exact blk_alloc_at _ _ _ _ rfl),by first | exact Nat.le_refl _ | omega,by repeat' first | exact Grows.refl _ | refine Grows.alloc ?_ _ | refine Grows.drewN ?_ _ | refine Grows.drew ?_⟩)
        case rest =>
        obtain ⟨bT,rfl,hbT,hzT,hgT⟩:=hcut
        obtain ⟨wt,hwt⟩:∃ z,z=wc:=⟨_,rfl⟩
        subst hwt
        have HBT:=Lib.hid hbT
        have HZT:=Lib.hid hzT
        have HOWN3:=Lib.hid (HOWN2.out.grows hgT)
        have HSS3:=Lib.hid (HSS2.out.grows hgT)
        have HSBR3:=Lib.hid (blkG HSBR2.out (by simp [daC]) hgT)
        have HCR3:=Lib.hid (HCR2.out.trans (Chg.of_grows hgT))
        have HN3:=Lib.hid (HN2.out.grows hgT)
        have HXr3:=Lib.hid (blkG HXr2.out (ndC_pos _ _) hgT)
        have hownT:u11.ownBlock≠some bT:=fun e=>by have:=(HOWN2.out.own e).2;omega
        have HOT:=Lib.hid hownT
        have hTs:bT≠sb:=by have:=HCR2.out.size;have:=HBB.out;omega
        have hm9:m1≤B:=by
         rw [← HM.out.1,HKE.out.1]
         exact each_top (fun e g2 n h=>turn_top (fun a g n h=>row_top (s:=s) HB.out k a g n h) _ _ _ _ _ h) _ _ HRTOP.out
        have hcall:=fun m:More=>HTURN.out A cap m1 t.2.1 (more wt m) ((HA.out.grows HGR1.out).chg (HCR3.out.trans (Chg.of_grows ⟨m,rfl⟩)) fun b _ hb=>hb) hta2 HT9.out.2.2.1 (blkG HSBR3.out (by simp [daC]) ⟨m,rfl⟩) hm9
        have hd1:((d+1:Nat):Int)=(d:Int)+1:=by omega
        simp only [hd1] at hcall
        have HCALL:=Lib.hid hcall
        have hldx:∀ m:More,loadPart Tryz.prog (more wt m) 91 bX 0 262=.ok (.agg (ndC x (.slice A k.len cap))) (more wt m):=fun m=>node_loadR (ndA_size _ _ _ _ _ _ _) fun j u hu=>by rw [Nat.zero_add];exact (Blk.cell (blkG HXr3.out (ndC_pos _ _) ⟨m,rfl⟩) (ndC_pos _ _) j).trans hu
        have hld:∀ m:More,loadPart Tryz.prog (more wt m) 35 b2 (o2+i*22+1) 20=.ok (spV t.2.1) (more wt m):=fun m=>sp_load HN3.out.len fun j u hu=>cellG (HN3.out.sp j u hu) ⟨m,rfl⟩
        clear d0 d21 ib2 DD hbT hgT hownT hzT hcall hwD hd1
        have d0:=HN3.out.c0
        rw [HTV.out] at d0
        have ib2:InHeap b2 wt:=HN3.out.inh
        have ibX:InHeap bX wt:=Blk.inHeap HXr3.out (ndC_pos _ _)
        go_upto_region 12 with fail
        refine region_tail 14 (by kernel_rfl) (by kernel_rfl) ?_
        simp only [List.take_succ_cons,List.take_zero,List.drop_succ_cons,List.drop_zero]
        repeat (go_big_quiet_step (fail))
        refine wpQuiet_nil ?_
        intro _ hw'
        obtain ⟨m2,rfl⟩:=hw'
        go_wp2_with fail
        (with_reducible refine (HCALL.out m2).mono ?_)
        rintro e9 w5 hpost
        have hpost:=hpost.weak.late (W:=wt) ⟨m2,rfl⟩
        obtain ⟨M,hM⟩:∃ z,turnR most x (fun a g n=>rowR10 s most k a g n) (unsetV k) F (d+1) tv t.2.1 m1=z:=⟨_,rfl⟩
        have hrin:=turn_in (n:=s.length) (most:=most) (x:=x) (R:=fun a g n=>rowR10 s most k a g n) (U:=unsetV k) (M:=k.len) (fun a g m ha hg=>row_in k a g m HK.out ha hg) (fun g hg=>unset_inS HK.out hg) F (d+1) tv t.2.1 m1 hta2 HT9.out.2.2.1
        rw [hM] at hpost hrin
        obtain ⟨v,rfl,hS2,hsb4,hc4⟩:=hpost
        have hKM:K t.1 t.2.1 m1=M:=by rw [HKE.out.1,HTV.out];exact hM
        have hfw:fw t=.cons D p1 .nil:=by rw [HKE.out.2.1];simp only [HTV.out,HP1.out,HD2.out]
        have hnext:eachR K fw ((a1++[t]).filter P) m0=((eachR K fw (a1.filter P) m0).1++addW (.cons D p1 .nil) M.1,M.2):=by
         rw [HFL.out [],List.filter_nil,each_app,HM.out.1]
         simp only [eachR,hKM,List.append_nil,hfw]
        have hOL:O1.length+M.1.length≤900001:=by
         have h1:=HCNT.out.1
         have h2:=HTOP.out
         have h3:(eachR K fw (L1.filter P) m0).1.length=((eachR K fw (a1.filter P) m0).1++addW (.cons D p1 .nil) M.1).length+(eachR K fw (c1.filter P) M.2).1.length:=by
          rw [HL.out.1,show a1++t::c1=(a1++[t])++c1 by simp,List.filter_append,each_app,hnext,List.length_append]
         have h4:O1.length=self.length+(eachR K fw (a1.filter P) m0).1.length:=by rw [← HM.out.2,List.length_append]
         dsimp only at h1 h2
         rw [List.length_append,h3,List.length_append] at h1
         simp only [addW,List.length_map] at h1
         omega
        have hown4:=HOWN3.out.chg hc4 fun b h1 _ (e:b=sb)=>by omega
        have hss4:=HSS3.out.chg hc4 fun b _ h1 (e:b=sb)=>by have:=h1.1;omega
        have hbw:base≤wt.heap.size:=by have:=HCR3.out.size;have:=HBB.out;omega
        have hs2:SsAt (fun b=>base≤b∧u11.ownBlock≠some b) w5 v M.1:=hS2.mono fun b _ h1=>⟨Nat.le_trans hbw h1,fun e=>by have:=(HOWN3.out.own e).2;omega⟩
        have hcr4:=HCR3.out.trans hc4
        have hbT4:blk w5 bT=#[.int .i64 D,.slice At p1.len ct]:=(chg_blk hc4 (Blk.inHeap HBT.out (by simp)) hTs).trans HBT.out
        obtain ⟨L2,hL2⟩:∃ z,M.1=z:=⟨_,rfl⟩
        obtain ⟨m3,hm3⟩:∃ z,M.2=z:=⟨_,rfl⟩
        rw [hL2] at hs2 hS2 hOL hrin hnext
        rw [hm3] at hsb4 hnext
        obtain ⟨A2,cap2,xs2,rfl,hsl2,-⟩:=hS2
        have hle2:=hsl2.le
        have h632:=hsl2.cap63
        have HOWN4:=Lib.hid hown4
        have HSS4:=Lib.hid hss4
        have HS2:=Lib.hid hs2
        have HSB5:=Lib.hid hsb4
        have HCR4:=Lib.hid hcr4
        have HBT4:=Lib.hid hbT4
        have HRIN2:=Lib.hid hrin
        have hc21:w5.cell? ⟨b2,o2+i*22+21,none⟩=some (.slice At p1.len ct):=cellC (by have:=HN3.out.c21;rwa [HP1.out] at this) hc4 h221
        have HC21:=Lib.hid hc21
        have HNX:=Lib.hid hnext
        obtain ⟨gi,hgi⟩:∃ z,z=gk:=⟨_,rfl⟩
        subst hgi
        clear hc21 hM hKM hfw hnext hown4 hss4 hs2 hcr4 hsb4 hsl2 hrin hc4 hld hldx HCALL d0 ib2 ibX hbT4 HOWN2 HSS2 HSBR2 HCR2 HN2 HXr2 HOWN3 HSS3 HSBR3 HCR3 HN3 HXr3 HBT hL2 hm3 hbw
        go_wp2_with fail
        go_loopg [11,16] L2.length (fun q v11 v16 wr=>∃ (k2:Nat) (a2 c2:List St),q+k2=L2.length∧v16=.int .i64 k2∧L2=a2++c2∧a2.length=k2∧OwnSt base wr v11 (O1++addW (Wy.cons D p1 .nil) a2)∧SsAt (fun b=>base≤b∧v11.ownBlock≠some b) wr (.slice (some ⟨b2,o2,none⟩) L1.length cap1) L1∧SsAt (fun b=>base≤b∧v11.ownBlock≠some b) wr (.slice A2 L2.length cap2) L2∧blk wr sb=daC s m3 most∧Chg (fun b=>b=sb) w1 wr∧blk wr bT=#[.int .i64 D,.slice At p1.len ct]∧v11.ownBlock≠some bT∧wr.cell? ⟨b2,o2+i*22+21,none⟩=some (.slice At p1.len ct))
        case atStart=>exact ⟨0,[],L2,by omega,rfl,rfl,rfl,by rw [show addW (Wy.cons D p1 .nil) []=[] from rfl,List.append_nil];exact HOWN4.out,HSS4.out,HS2.out,HSB5.out,HCR4.out,HBT4.out,HOT.out,HC21.out⟩
        case round =>
         obtain ⟨k2,a2,c2,hq,rfl,hL2,ha2,hown,hss,hs2,hsbr,hcr,hbt,hot,hc21⟩:=hrel
         cases c2 with
         | nil =>
          have hkL:k2=L2.length:=by rw [hL2,List.append_nil];exact ha2.symm
          have haL:a2=L2:=by rw [hL2,List.append_nil]
          subst hkL
          subst haL
          have HO9:=Lib.hid hown
          have HS9:=Lib.hid hss
          have HSBR:=Lib.hid hsbr
          have HCR:=Lib.hid hcr
          clear hq hown hss hs2 hsbr hcr hL2 ha2 hbt hot hc21
          go_wp2_with fail
          go_roundg (gi - 1)
          case measure=>have:=HQ.out;omega
          case rel=>exact ⟨i+1,a1++[t],c1,by have:=HQ.out;omega,by go_num,by rw [List.append_assoc];exact HL.out.1,by rw [List.length_append,HL.out.2];rfl,by rw [HNX.out,← List.append_assoc,HM.out.2];exact HO9.out,HS9.out,by rw [HNX.out];exact HSBR.out,HCR.out⟩
         | cons u c2 =>
          have hk2:k2 < L2.length:=by rw [hL2,List.length_append,ha2];simp
          have k21:(k2:Int) < (L2.length:Int):=by omega
          obtain ⟨b3,o3,cp3,e3,ib3,-,-,-⟩:=hs2.form (by omega)
          injection e3 with e3 e4 e5
          subst e3
          subst e5
          obtain ⟨Au,cu,hU⟩:=hs2.nth hL2
          obtain ⟨Aw,cw,hT⟩:=hss.nth HL.out.1
          rw [ha2] at hU
          rw [HL.out.2] at hT
          obtain ⟨wv,hwv⟩:∃ z,z=wr:=⟨_,rfl⟩
          subst hwv
          obtain ⟨g3,hg3⟩:∃ z,u.2.1=z:=⟨_,rfl⟩
          have hg3l:g3.length=20:=by rw [← hg3];exact hU.len
          have hsz3:(spC g3).size=20:=by rw [spC_size];exact hg3l
          obtain ⟨p2,hp2⟩:∃ z,u.2.2=z:=⟨_,rfl⟩
          obtain ⟨eu,heu⟩:∃ z,u.1=z:=⟨_,rfl⟩
          obtain ⟨ms2,ws2,wr2⟩:=hU.wy
          have c1':=hU.c0
          have c2':=hU.c21
          have sp3:=hU.sp
          have hpl2:p2.len≤80000:=by rw [← hp2];have:=(HRIN2.out u (by rw [hL2];simp)).2.2.2;omega
          rw [hp2] at ws2 wr2 c2'
          rw [hg3] at sp3
          rw [heu] at c1'
          have hq21:=hc21.symm.trans hT.c21
          rw [HP1.out] at hq21
          injection hq21 with hq21
          injection hq21 with hq1 _ hq2
          subst hq1
          subst hq2
          obtain ⟨ms1,ws1,wr1⟩:=hT.wy
          rw [HP1.out] at ws1 wr1
          obtain ⟨O2,hO2⟩:∃ z,O1++addW (Wy.cons D p1 .nil) a2=z:=⟨_,rfl⟩
          have hO2l:O2.length≤1000000:=by
           rw [← hO2,List.length_append]
           simp only [addW,List.length_map]
           omega
          rw [hO2] at hown
          obtain ⟨xo,hxo,hxr⟩:=hown
          have hlo1:∀ b,u11.ownBlock=some b→base≤b∧b < wv.heap.size:=fun b hb=>⟨(own_ltX hxo hb).2,(own_ltX hxo hb).1⟩
          have hby:base≤wv.heap.size:=by have:=hcr.size;have:=HBB.out;omega
          have ibT:InHeap bT wv:=Blk.inHeap hbt (by simp)
          have t0:wv.cell? ⟨bT,0,none⟩=some (.int .i64 D):=Blk.cell hbt (by simp) 0
          have t1:wv.cell? ⟨bT,1,none⟩=some (.slice At p1.len ct):=Blk.cell hbt (by simp) 1
          have h2own:u11.ownBlock≠some b2:=by
           obtain ⟨_,_,_,e2,_,hb2,_⟩:=hss.form (by omega)
           injection e2 with e2
           injection e2 with e2
           cases e2
           exact hb2.2
          have HSA:Hid (∀ w',Chg (fun b=>u11.ownBlock=some b) wv w'→(w'.cell? ⟨b3,o3+k2*22,none⟩=some (.int .i64 eu)∧w'.rangeAt b3 (o3+k2*22+1) (spC g3).toList∧w'.cell? ⟨bT,0,none⟩=some (.int .i64 D)∧w'.cell? ⟨bT,1,none⟩=some (.slice At p1.len ct)∧w'.cell? ⟨b3,o3+k2*22+21,none⟩=some (.slice Au p2.len cu))):=by
           obtain ⟨_,_,_,e,_,hb3,_⟩:=hs2.form (by omega)
           injection e with e
           injection e with e
           cases e
           exact Lib.hid fun w' hg=>⟨cellC c1' hg hb3.2,fun j v hj=>cellC (sp3 j v (by rw [← Array.getElem?_toList];exact hj)) hg hb3.2,cellC t0 hg hot,cellC t1 hg hot,cellC c2' hg hb3.2⟩
          have hl9:1+p2.len=(Wy.cons D p1 p2).len:=by simp only [Wy.len];omega
          have HF9:Hid (∀ (w4:World) (v':Value),w4.ownsRow wv.heap.size 130 2 v' (1+p2.len) ([.int .i64 D,.slice At p1.len ct]++ms2)→Grows wv w4→∃ A9 cap9,v'=.slice A9 (1+p2.len) cap9∧WyAt (fun b=>base≤b∧u11.ownBlock≠some b) w4 A9 cap9 (.cons D p1 p2)):=Lib.hid (by
           intro w4 v' h2 h3
           obtain ⟨A9,cap9,rfl,g1,g2,g3,g4,g5⟩:=own_rdX h2
           have hc4:Chg (fun _=>False) wv w4:=Chg.of_grows h3
           refine ⟨A9,cap9,rfl,[.int .i64 D,.slice At p1.len ct]++ms2,⟨by rw [← hl9];exact g3,by rw [← hl9];exact g4,by rw [← hl9];exact g1,g2,fun _ a e=>?_⟩,At,ct,ms1,ms2,rfl,(ws1.chg hc4 fun _ _ _ h=>h).mono fun b _ ho=>ho.1,(wr1.chg hc4 fun _ _ _ h=>h).mono fun b _ ho=>ho.1,(wr2.chg hc4 fun _ _ _ h=>h).mono fun b _ ho=>ho.1,by omega⟩
           obtain ⟨g,o,t⟩:=a
           have:=(g5 g o t e).2.2.1
           exact ⟨Nat.le_trans hby this,fun e=>by have:=(hlo1 _ e).2;simp only [] at this;omega⟩)
          have HR2:=Lib.hid ws2
          have HN9:=Lib.hid (wr2.one)
          have HXO:=Lib.hid hxo
          have HXR:=Lib.hid hxr
          have HSS:=Lib.hid hss
          have HS9:=Lib.hid hs2
          have HSBR:=Lib.hid hsbr
          have HCR:=Lib.hid hcr
          have HU:=Lib.hid (And.intro hL2 ha2)
          have HQ2:=Lib.hid hq
          have HLO:=Lib.hid hlo1
          have HY:=Lib.hid hby
          have HBTv:=Lib.hid (And.intro hbt (And.intro hot (And.intro hc21 h2own)))
          have HPU:=Lib.hid (And.intro hg3 (And.intro hp2 (And.intro heu hO2)))
          have hu23:=Tryz.underlying35
          have hi23:(Tryz.prog.info? 35).map (·.size)=some (spC g3).toList.length:=by rw [Array.length_toList,hsz3];kernel_rfl
          have HL9:=Lib.hid hl9
          clear hq hss hs2 hsbr hcr hL2 ha2 hU hT ws1 ws2 wr1 wr2 c1' c2' sp3 hxo hxr hlo1 hby hbt hot hc21 h2own t0 t1 hg3 hp2 heu hO2 hl9
          go_upto_region 16 with fail
          go_region_held3 (fun w'=>w'.cell? ⟨b3,o3+k2*22,none⟩=some (.int .i64 eu)∧w'.rangeAt b3 (o3+k2*22+1) (spC g3).toList∧w'.cell? ⟨bT,0,none⟩=some (.int .i64 D)∧w'.cell? ⟨bT,1,none⟩=some (.slice At p1.len ct)∧w'.cell? ⟨b3,o3+k2*22+21,none⟩=some (.slice Au p2.len cu))
           (first
            | (refine HSA.out _ (Chg.of_grows ?_);(repeat' first | exact G9.out | exact Grows.refl _ | refine Grows.alloc ?_ _ | refine Grows.drewN ?_ _ | refine Grows.drew ?_);done)
            | (refine HSA.out _ ?_;(repeat' first | exact C7.out | refine chgDrewN ?_ _ | refine chgDrew ?_);done))
           (first
            | (refine step_append_rdE elemWyR (.tmp 115) (.tmp 120) wv.heap.size (.slice (some ⟨wv.heap.size,0,none⟩) 1 1) 1 [.int .i64 D,.slice At p1.len ct] Au p2.len cu ms2 (by rfl) (by rfl) (by simp [Act.eval,Act.put]) (by first | exact own_made1 #[.int .i64 D,.slice At p1.len ct] (Nat.le_refl _) rfl | exact (own_made1 #[.int .i64 D,.slice At p1.len ct] (Nat.le_refl _) rfl).drew) (by simp [Act.eval,Act.put]) HR2.out.nil (HR2.out.rd.grows (by repeat' first | exact Grows.refl _ | refine Grows.alloc ?_ _ | refine Grows.drewN ?_ _ | refine Grows.drew ?_)) HN9.out (by omega) (by simp) ?_;intro v9 w9 hown9 hC9;have hG9:Grows wv w9:=Chg.grows (n:=0) (by repeat' first | exact Grows.refl _ | refine Grows.alloc ?_ _ | refine Grows.drewN ?_ _ | refine Grows.drew ?_) hC9 (fun b e=>by first | (cases e;done) | (cases e;exact Nat.le_refl _));obtain ⟨A9,cap9,rfl,hW9⟩:=HF9.out w9 v9 hown9 hG9;have G9:=Lib.hid hG9;have W9:=Lib.hid hW9;clear hown9 hC9 hG9 hW9)
            | (refine step_append_blk elemSt (.tmp 103) (.tmp 123) base u11 O2.length xo w9.heap.size (stC eu g3 (.slice A9 (1+p2.len) cap9)) (by rfl) (by rfl) (by simp [Act.eval,Act.put]) (own_moreX HXO.out (by repeat' first | exact G9.out | exact Grows.refl _ | refine Grows.alloc ?_ _ | refine Grows.drewN ?_ _ | refine Grows.drew ?_)) (by simp [Act.eval,Act.put]) (by simp [go_sem]) (stC_size hg3l) (stC_one rfl) hO2l (by have:=HY.out;have:=G9.out.below.size;simp;omega) ?_;intro e7 cap7 w7 hown7 hC7 hE7;have C7:Hid (Chg (fun b=>u11.ownBlock=some b) wv w7):=Lib.hid ((Chg.of_grows (by repeat' first | exact G9.out | exact Grows.refl _ | refine Grows.alloc ?_ _ | refine Grows.drewN ?_ _ | refine Grows.drew ?_)).trans hC7);have P7:=Lib.hid (And.intro hown7 (And.intro hC7 hE7));clear hown7 hC7 hE7))
          all_goals (
           obtain ⟨q1,q2,q3⟩:=P7.out
           rw [HL9.out] at q1
           have HO7:=Lib.hid (OwnSt.push (t:=(eu,g3,Wy.cons D p1 p2)) (HXR.out.chg (Chg.of_grows (p:=fun _=>False) (by repeat' first | exact G9.out | exact Grows.refl _ | refine Grows.alloc ?_ _ | refine Grows.drewN ?_ _ | refine Grows.drew ?_)) fun _ _ _ h=>h) hg3l (W9.out.grows (by repeat' first | exact Grows.refl _ | refine Grows.alloc ?_ _ | refine Grows.drewN ?_ _ | refine Grows.drew ?_)) q1 q2 q3)
           have HS7:=Lib.hid (SsAt.past (n:=O2.length+1) (cap:=cap7) (HSS.out.grows (by repeat' first | exact G9.out | exact Grows.refl _ | refine Grows.alloc ?_ _ | refine Grows.drewN ?_ _ | refine Grows.drew ?_)) q2 q3)
           have HT7:=Lib.hid (SsAt.past (n:=O2.length+1) (cap:=cap7) (HS9.out.grows (by repeat' first | exact G9.out | exact Grows.refl _ | refine Grows.alloc ?_ _ | refine Grows.drewN ?_ _ | refine Grows.drew ?_)) q2 q3)
           have HB7:Hid (blk w7 sb=daC s m3 most):=Lib.hid ((chg_blk C7.out (Blk.inHeap HSBR.out (by simp [daC])) (fun e=>by have:=(HLO.out sb e).1;omega)).trans HSBR.out)
           have HC7w:=Lib.hid (chg_late HCR.out C7.out fun b hb e=>by have:=(HLO.out b e).1;have:=HBB.out;omega)
           have HOe:Hid (O1++addW (Wy.cons D p1 .nil) (a2++[u])=O2++[(eu,g3,Wy.cons D p1 p2)]):=Lib.hid (by rw [← HPU.out.2.2.2,← HPU.out.2.2.1,← HPU.out.1,← HPU.out.2.1];simp [addW,Wy.app])
           have HBT7:Hid (blk w7 bT=#[.int .i64 D,.slice At p1.len ct]):=Lib.hid ((chg_blk C7.out ibT HBTv.out.2.1).trans HBTv.out.1)
           have HC27:Hid (w7.cell? ⟨b2,o2+i*22+21,none⟩=some (.slice At p1.len ct)):=Lib.hid (cellC HBTv.out.2.2.1 C7.out HBTv.out.2.2.2)
           have HOT7:Hid ((Value.slice (some ⟨e7,0,none⟩) (O2.length+1) cap7).ownBlock≠some bT):=Lib.hid fun e=>by
            have e2:=ownBlock_slice e
            rcases q3 with q3 | q3
            ·rw [← e2] at q3;exact HBTv.out.2.1 q3
            ·have h1:bT < wv.heap.size:=ibT
             have h2:=G9.out.below.size
             simp at q3
             omega
           clear q1 q2 q3 P7 C7 HSA HF9 HR2 HN9 G9 W9
           go_wp2_with fail
           go_roundg (gk - 1)
           case measure=>have:=HQ2.out;omega
           case rel=>exact ⟨k2+1,a2++[u],c2,by have:=HQ2.out;omega,by go_num,by rw [List.append_assoc];exact HU.out.1,by rw [List.length_append,HU.out.2];rfl,(by rw [HOe.out];exact HO7.out.grows (by repeat' first | exact Grows.refl _ | refine Grows.drewN ?_ _ | refine Grows.drew ?_)),HS7.out.grows (by repeat' first | exact Grows.refl _ | refine Grows.drewN ?_ _ | refine Grows.drew ?_),HT7.out.grows (by repeat' first | exact Grows.refl _ | refine Grows.drewN ?_ _ | refine Grows.drew ?_),blkG HB7.out (by simp [daC]) (by repeat' first | exact Grows.refl _ | refine Grows.drewN ?_ _ | refine Grows.drew ?_),HC7w.out.trans (Chg.of_grows (by repeat' first | exact Grows.refl _ | refine Grows.drewN ?_ _ | refine Grows.drew ?_)),blkG HBT7.out (by simp) (by repeat' first | exact Grows.refl _ | refine Grows.drewN ?_ _ | refine Grows.drew ?_),HOT7.out,cellG HC27.out (by repeat' first | exact Grows.refl _ | refine Grows.drewN ?_ _ | refine Grows.drew ?_)⟩)
end
end Go.Proofs.YtnjagecmhdagkaaGreatDoor
