/-
 Several texts of the proof: MatK, MatL.
-/
import Derived.Test.YtnjagecmhdagkaaGreatDoorPk35
set_option linter.unusedSimpArgs false
set_option linter.unusedVariables false
set_option maxRecDepth 3000
/-
  Matches: stretches of groups within a row, walked.
-/
namespace Go.Proofs.YtnjagecmhdagkaaGreatDoor
open Go.RowKit
attribute [local go_sem ↓] zeroNm ldNm_eq stNm_eq
attribute [local go_sem] loadNm loadNm_if storeNm storeNm_if nm_one_nd nm_size_nd over_nm span_nm
section
variable {s:List UInt8} {Nm:Nat→NdV→Fr→Prop} {tb r lo:Nat}
structure GtAt (s:List UInt8) (Nm:Nat→NdV→Fr→Prop) (tb r lo:Nat) (A:Option Addr) (n cap e bT bL bE G:Nat) (g:Spn) (q:Nat→Prop) (w wr:World):Prop where
 t:blk wr bT=#[.pointer (some ⟨tb,0,none⟩)]
 l:blk wr bL=#[.slice A n cap]
 e:blk wr bE=#[.int .i64 e]
 sp:SpAt wr G g
 tab:TbAt s Nm tb r lo q wr
 chg:Chg (fun y=>y=r∨y=G) w wr
section
variable {A:Option Addr} {n cap e bT bL bE G:Nat} {g g2:Spn} {q q2:Nat→Prop} {w wr w2:World}
theorem GtAt.lts (h:GtAt s Nm tb r lo A n cap e bT bL bE G g q w wr):bT < wr.heap.size∧bL < wr.heap.size∧bE < wr.heap.size:=⟨Blk.inHeap h.t (by simp),Blk.inHeap h.l (by simp),Blk.inHeap h.e (by simp)⟩
theorem GtAt.step {p:Nat→Prop} (h:GtAt s Nm tb r lo A n cap e bT bL bE G g q w wr) (hc:Chg p wr w2) (hp:¬ p bT∧¬ p bL∧¬ p bE) (hl:∀ b,b < w.heap.size→p b→b=r∨b=G) (hs:SpAt w2 G g2) (ht:TbAt s Nm tb r lo q2 w2):GtAt s Nm tb r lo A n cap e bT bL bE G g2 q2 w w2 :=
 ⟨(chg_blk hc h.lts.1 hp.1).trans h.t,(chg_blk hc h.lts.2.1 hp.2.1).trans h.l,(chg_blk hc h.lts.2.2 hp.2.2).trans h.e,hs,ht,chg_late h.chg hc hl⟩
end
set_option maxRecDepth 100000 in
set_option maxHeartbeats 8000000 in
theorem give_any (hs:s.length≤60000) (hN:NumOk Nm) (f:Fr) (hAll:∀ (a:Fr) (x:NdV) (k c:Fr),f=a.app (.cons x k c)→WithinC s Nm tb r lo x k):GiveC s Nm tb r lo f:=by
 intro m A cap a e G g q w hall hnf ht hq hae hen hends hG hqG hGr hGt hGlo
 have hW:=wds_le hs
 have hfl:f.len≤9223372036854775807:=by
  obtain ⟨xs,h1,_⟩:=hnf
  have:=h1.le
  have:=h1.cap63
  omega
 have irw:r < w.heap.size:=ht.rlt
 have itw:tb < w.heap.size:=ht.inh
 have iGw:G < w.heap.size:=hG.inh
 have H:=Lib.hid ht
 have HNF:=Lib.hid hnf
 have HALL:=Lib.hid hall
 have HQ:=Lib.hid hq
 have HG:=Lib.hid hG
 have HQG:=Lib.hid hqG
 have HN:=Lib.hid hN
 have HEND:=Lib.hid hends
 have HWI:=Lib.hid hAll
 clear ht hnf hall hq hG hqG hN hends hAll
 obtain ⟨S,hS⟩:∃ S,giveV s f a e g=S:=⟨_,rfl⟩
 rw [hS]
 have HS:=Lib.hid hS
 clear hS
 go_enter Tryz.func48,Tryz.ntmps48
 go_upto_region 1 with fail
 have hL:=(((LaidAt.start w).alloc #[.pointer (some ⟨tb,0,none⟩)] 112).alloc #[.slice A f.len cap] 65).alloc #[.int .i64 e] 3
 generalize ((w.alloc (Obj.cells #[.pointer (some ⟨tb,0,none⟩)] 112)).alloc (Obj.cells #[.slice A f.len cap] 65)).alloc (Obj.cells #[.int .i64 e] 3)=w1 at *
 obtain ⟨bE,hbE⟩:∃ z,z=w.heap.size+1+1:=⟨_,rfl⟩
 obtain ⟨bL,hbL⟩:∃ z,z=w.heap.size+1:=⟨_,rfl⟩
 obtain ⟨bT,hbT⟩:∃ z,z=w.heap.size:=⟨_,rfl⟩
 rw [← hbE,← hbL,← hbT]
 have hg1:=hL.grows
 have hz1:w1.heap.size=w.heap.size+3:=hL.size
 have hV1:GtAt s Nm tb r lo A f.len cap e bT bL bE G g q w w1:=⟨by rw [hbT];exact hL.blk 0 _ rfl,by rw [hbL];exact hL.blk 1 _ rfl,by rw [hbE];exact hL.blk 2 _ rfl,HG.out.grows hg1,H.out.grows hg1,Chg.of_grows hg1⟩
 have NE:Hid ((bT≠r∧bL≠r∧bE≠r)∧(bT≠G∧bL≠G∧bE≠G)):=Lib.hid (by omega)
 have l1:w1.cell? ⟨bL,0,none⟩=some (.slice A f.len cap):=Blk.cell hV1.l (by simp) 0
 have V1:=Lib.hid hV1
 clear hL hbE hbL hbT hV1 hg1 hz1
 go_wp2_with fail
 go_loopg [2,16] f.len (fun q0 v2 v16 wr=>∃ (i t:Nat) (a1 c1:Fr) (g':Spn),q0+i=f.len∧v2=.int .i64 t∧v16=.int .i64 i∧f=a1.app c1∧a1.len=i∧GtAt s Nm tb r lo A f.len cap e bT bL bE G g' q w wr∧t≤e∧endsF s c1 t e=true∧giveV s c1 t e g'=S)
 case atStart=>exact ⟨0,a,.nil,f,g,by omega,rfl,rfl,rfl,rfl,V1.out,hae,HEND.out,HS.out⟩
 case round =>
  obtain ⟨i,t,a1,c1,g',hq0,rfl,rfl,hf,hai,hV,hte,hend,hgv⟩:=hrel
  clear V1 l1
  cases c1 with
  | nil =>
   have hi:i=f.len:=by rw [hf,Fr.app_nil];exact hai.symm
   subst hi
   have hin:decide (f.len < f.len)=false:=decide_eq_false (Nat.lt_irrefl _)
   have hgs:g'=S:=hgv
   subst hgs
   have V:=Lib.hid hV
   clear hV hend hgv hf hai hq0
   go_wp2_with fail
   exact ⟨rfl,.tuple #[],results_none rfl _ _ _,rfl,V.out.sp,V.out.tab,V.out.chg⟩
  | cons x k rest =>
   have hil:i < f.len:=by rw [hf,Fr.len_app,hai];simp [Fr.len]
   have hnr:=HNF.out.chg hV.chg fun b _ hb e=>by have:=hV.tab.lr;omega
   obtain ⟨b5,o5,KA,kn,kc,K,capk,hA,hK,hld⟩:=hnr.node hf
   subst hA
   rw [hai] at hld
   have hall2:=HALL.out
   rw [hf,AllNum.app] at hall2
   obtain ⟨-,hid,hallk,-⟩:=hall2
   obtain ⟨s1,s2,s3,s4⟩:=give_spec hte hen hend
   obtain ⟨u,hu⟩:∃ z,longF (nodeS s x (endsF s k) t) (fun q=>endsF s rest q e) t e=z:=⟨_,rfl⟩
   have hgv2:giveV s rest u e (withinV s x k (giveV s k) t u g')=S:=by rw [← hu];exact hgv
   rw [hu] at s1 s2 s3 s4
   have HWX:=Lib.hid (HWI.out a1 x k rest hf)
   have HNR:=Lib.hid hnr
   have HID:=Lib.hid hid
   have HALLK:=Lib.hid hallk
   have HKN:=Lib.hid hK
   have V:=Lib.hid hV
   have HF:=Lib.hid hf
   have HAI:=Lib.hid hai
   have HQ0:=Lib.hid hq0
   have HSP:=Lib.hid (And.intro s1 (And.intro s2 (And.intro s3 s4)))
   have HGV:=Lib.hid hgv2
   have HU:=Lib.hid hu
   have hte9:t≤60000:=by omega
   have hu9:u≤60000:=by omega
   clear hnr hid hallk hK hV hf hai hq0 s1 s2 s3 s4 hgv hgv2 hu hend
   obtain ⟨id,hidd⟩:∃ id,m+a1.size=id:=⟨_,rfl⟩
   rw [hidd] at hld HID HALLK HKN
   have hidm:Hid (m+a1.size=id):=Lib.hid hidd
   clear hidd
   go_upto_region 4 with fail
   have hL:=((LaidAt.start wr).alloc #[.int .i64 i] 3).alloc (nmC x (.slice KA kn kc) id (.slice K k.len capk)) 102
   obtain ⟨bI,hbI⟩:∃ z,z=wr.heap.size:=⟨_,rfl⟩
   obtain ⟨bX,hbX⟩:∃ z,z=wr.heap.size+1:=⟨_,rfl⟩
   rw [← hbX,← hbI]
   generalize (wr.alloc (Obj.cells #[.int .i64 (i:Int)] 3)).alloc (Obj.cells (nmA (ndA (x.kind:Int) (x.byte:Int) x.set (x.n:Int) (x.mn:Int) x.mx (.slice KA kn kc)) (id:Int) (.slice K k.len capk)) 102)=w3 at *
   have hI3:blk w3 bI=#[.int .i64 i]:=by rw [hbI];exact hL.blk 0 _ rfl
   have hX3:blk w3 bX=nmC x (.slice KA kn kc) id (.slice K k.len capk):=by rw [hbX];exact hL.blk 1 _ rfl
   have hg3:=hL.grows
   have hz3:w3.heap.size=wr.heap.size+2:=hL.size
   have V3:=V.out.step (Chg.of_grows (p:=fun _=>False) hg3) ⟨fun h=>h,fun h=>h,fun h=>h⟩ (fun _ _ h=>h.elim) (V.out.sp.grows hg3) (V.out.tab.grows hg3)
   have t3:w3.cell? ⟨bT,0,none⟩=some (.pointer (some ⟨tb,0,none⟩)):=Blk.cell V3.t (by simp) 0
   have hcall:=empty_any V3.tab.tab hs
   have hwr:=V.out.chg.size
   have hGw:G < wr.heap.size:=V.out.sp.inh
   have hrw:r < wr.heap.size:=V.out.tab.rlt
   have htw:tb < wr.heap.size:=V.out.tab.inh
   have hlts:=V.out.lts
   have hlr:=V.out.tab.lr
   have HB:Hid (bI=wr.heap.size∧bX=wr.heap.size+1):=Lib.hid ⟨hbI,hbX⟩
   have HV3:=Lib.hid V3
   have HI3:=Lib.hid hI3
   have HX3:=Lib.hid hX3
   clear hL hbI hbX V3 hI3 hX3 hld
   go_wp2_with fail
   (with_reducible refine hcall.mono ?_)
   rintro e9 w4 ⟨c,rfl,hP4,hlo4,hg4⟩
   obtain ⟨hbI,hbX⟩:=HB.out
   have h34:=hg4.below.size
   have hcw:c < w4.heap.size:=hP4.inh
   have V4:GtAt s Nm tb r lo (some ⟨b5,o5,none⟩) f.len cap e bT bL bE G g' (fun y=>q y∧y≠c) w w4:=HV3.out.step (Chg.of_grows (p:=fun _=>False) hg4) ⟨fun h=>h,fun h=>h,fun h=>h⟩ (fun _ _ h=>h.elim) (HV3.out.sp.grows hg4) ((HV3.out.tab.away hlo4).grows hg4)
   have I4:=(chg_blk (Chg.of_grows (p:=fun _=>False) hg4) (Blk.inHeap HI3.out (by simp)) (fun h=>h)).trans HI3.out
   have X4:=(chg_blk (Chg.of_grows (p:=fun _=>False) hg4) (Blk.inHeap HX3.out (by rw [nmC_size];decide)) (fun h=>h)).trans HX3.out
   have K4:NfAt (fun b=>b < lo) w4 K capk k (id+1):=HKN.out.chg (Chg.of_grows (p:=fun _=>False) (hg3.trans hg4)) fun _ _ _ h=>h
   have hq4:∀ b,w4.heap.size≤b→(fun y=>q y∧y≠c) b:=fun b hb=>⟨HQ.out b (by omega),by omega⟩
   have hnode:=mnode_ok hs HN.out (HN.out.ok _ _ _ HID.out).1 id KA kn kc K capk t c (fun _=>false) (fun y=>q y∧y≠c) w4 HID.out HALLK.out K4 V4.tab hq4 (by omega) hP4 (fun h=>h.2 rfl) (by omega) (by omega) (by omega)
   have hor:orP (fun _=>false) (nodeS s x (endsF s k) t)=nodeS s x (endsF s k) t:=by funext j;simp [orP]
   rw [hor] at hnode
   have t4:w4.cell? ⟨bT,0,none⟩=some (.pointer (some ⟨tb,0,none⟩)):=Blk.cell V4.t (by simp) 0
   have ld4:=loadNm_all w4 bX _ X4 (nmC_size _ _ _ _)
   have HV4:=Lib.hid V4
   have HI4:=Lib.hid I4
   have HX4:=Lib.hid X4
   have HK4:=Lib.hid K4
   have HBB:=Lib.hid (And.intro hbI hbX)
   have HLO4:=Lib.hid hlo4
   clear hcall hP4 hg4 V4 I4 X4 K4 hq4 hor HV3 HI3 HX3 HKN t3 hbI hbX hg3 hlo4
   go_wp2_with fail
   (with_reducible refine hnode.mono ?_)
   rintro e9 w5 ⟨rfl,hP5,hT5,hC5⟩
   have hlo4:=HLO4.out
   obtain ⟨hbI,hbX⟩:=HBB.out
   have h45:=hC5.size
   have V5:GtAt s Nm tb r lo (some ⟨b5,o5,none⟩) f.len cap e bT bL bE G g' (fun y=>q y∧y≠c) w w5:=HV4.out.step hC5 (by have:=NE.out;omega) (fun b hb h=>by omega) (HV4.out.sp.chg hC5 (by omega)) hT5
   have I5:=(chg_blk hC5 (Blk.inHeap HI4.out (by simp)) (by omega:¬ (bI=r∨bI=c))).trans HI4.out
   have X5:=(chg_blk hC5 (Blk.inHeap HX4.out (by rw [nmC_size];decide)) (by omega:¬ (bX=r∨bX=c))).trans HX4.out
   have K5:NfAt (fun b=>b < lo) w5 K capk k (id+1):=HK4.out.chg hC5 fun b _ hb e=>by omega
   have hq5:∀ b,w5.heap.size≤b→(fun y=>q y∧y≠c) b:=fun b hb=>⟨HQ.out b (by omega),by omega⟩
   have hlong:=give_long hs HN.out m b5 o5 cap i t e HF.out HAI.out (fun y=>q y∧y≠c) V5.t V5.l I5 V5.e hP5 (fun p hp=>(nodeS_rises (endsF_rises s k) t p (by omega) hp).2) HALL.out (HNF.out.chg V5.chg fun b _ hb e=>by omega) V5.tab hq5 hen ⟨NE.out.1.1,NE.out.1.2.1,by omega,NE.out.1.2.2,by omega⟩ (Grows.refl w5)
   rw [HU.out] at hlong
   have t5:w5.cell? ⟨bT,0,none⟩=some (.pointer (some ⟨tb,0,none⟩)):=Blk.cell V5.t (by simp) 0
   have e5:w5.cell? ⟨bE,0,none⟩=some (.int .i64 e):=Blk.cell V5.e (by simp) 0
   have HV5:=Lib.hid V5
   have HX5:=Lib.hid X5
   have HK5:=Lib.hid K5
   clear hnode hP5 hT5 hC5 V5 I5 X5 K5 hq5 HV4 HI4 HX4 HK4 t4 ld4 hbI hbX hlo4
   go_wp2_with fail
   (with_reducible refine hlong.mono ?_)
   rintro e9 w6 ⟨rfl,hT6,hC6⟩
   have hlo4:=HLO4.out
   obtain ⟨hbI,hbX⟩:=HBB.out
   have h56:=hC6.size
   have V6:GtAt s Nm tb r lo (some ⟨b5,o5,none⟩) f.len cap e bT bL bE G g' (fun y=>q y∧y≠c) w w6:=HV5.out.step hC6 NE.out.1 (fun b hb h=>.inl h) (HV5.out.sp.chg hC6 hGr) hT6
   have X6:=(chg_blk hC6 (Blk.inHeap HX5.out (by rw [nmC_size];decide)) (by omega)).trans HX5.out
   have K6:NfAt (fun b=>b < lo) w6 K capk k (id+1):=HK5.out.chg hC6 fun b _ hb e=>by omega
   have hq6:∀ b,w6.heap.size≤b→(fun y=>q y∧y≠c) b:=fun b hb=>⟨HQ.out b (by omega),by omega⟩
   have hwi:=HWX.out id KA kn kc K capk t u G g' (fun y=>q y∧y≠c) w6 HID.out HALLK.out K6 V6.tab hq6 HSP.out.2.2.1 (by have:=HSP.out.2.2.2;omega) HSP.out.1 V6.sp (fun h=>HQG.out h.1) hGr hGt hGlo
   have t6:w6.cell? ⟨bT,0,none⟩=some (.pointer (some ⟨tb,0,none⟩)):=Blk.cell V6.t (by simp) 0
   have ld6:=loadNm_all w6 bX _ X6 (nmC_size _ _ _ _)
   have HV6:=Lib.hid V6
   clear hlong hT6 hC6 V6 X6 K6 hq6 HV5 HX5 HK5 t5 e5 hbI hbX hlo4
   go_wp2_with fail
   (with_reducible refine hwi.mono ?_)
   rintro e9 w7 ⟨rfl,hS7,hT7,hC7⟩
   have hlo4:=HLO4.out
   have V7:GtAt s Nm tb r lo (some ⟨b5,o5,none⟩) f.len cap e bT bL bE G (withinV s x k (giveV s k) t u g') q w w7:=HV6.out.step hC7 ⟨fun h=>h.elim NE.out.1.1 NE.out.2.1,fun h=>h.elim NE.out.1.2.1 NE.out.2.2.1,fun h=>h.elim NE.out.1.2.2 NE.out.2.2.2⟩ (fun b hb h=>h) hS7 (hT7.mono fun b _ h=>h.1)
   have HV7:=Lib.hid V7
   have hi6:i < f.len:=hil
   clear hwi hS7 hT7 hC7 V7 HV6 t6 ld6 hlo4
   go_wp2_with fail
   go_roundg (gk - 1)
   case measure=>have:=HQ0.out;omega
   case rel=>exact ⟨i+1,u,a1.app (Fr.one x k),rest,_,by have:=HQ0.out;omega,rfl,by simp,by rw [HF.out,Fr.app_assoc];rfl,by rw [Fr.len_app,HAI.out];rfl,HV7.out,HSP.out.2.2.2,HSP.out.2.1,HGV.out⟩
theorem mgive_ok (hs:s.length≤60000) (hN:NumOk Nm) (f:Fr):GiveC s Nm tb r lo f :=
 (all_of (C:=GiveC s Nm tb r lo) (fun f hA=>give_any hs hN f fun a x k c hf=>by
  rw [hf,AllK.app] at hA
  exact within_any hs hN hA.2.1) f).1
end
end Go.Proofs.YtnjagecmhdagkaaGreatDoor
namespace Go.Proofs.YtnjagecmhdagkaaGreatDoor
open Go.RowKit
def lastI (P:Pl):Nat→Int
 | 0=>-1
 | j+1=>if P j then j else lastI P j
theorem last_skip {P:Pl} {j:Nat} (h:P j=false):lastI P (j+1)=lastI P j:=by
 show (if P j then (j:Int) else lastI P j)=lastI P j
 rw [h];simp
theorem last_next {P:Pl} {j:Nat} (h:P j=true):lastI P (j+1)=j:=by
 show (if P j then (j:Int) else lastI P j)=j
 rw [h];simp
theorem last_max (P:Pl):∀ n,lastI P (n+1)=match maxOf P n with | none=>-1 | some e=>(e:Int)
 | 0=>by unfold lastI maxOf lastI;cases P 0 <;> rfl
 | n+1=>by
  have ih:=last_max P n
  rw [lastI,maxOf]
  cases P (n+1) with
  | true=>rfl
  | false=>simpa using ih
theorem last_far {P:Pl} {n:Nat} (h:∀ i,P i=true→i≤n):∀ m,n+1≤m→lastI P m=lastI P (n+1):=by
 intro m
 induction m with
 | zero=>intro h;omega
 | succ m ih =>
  intro hm
  by_cases e:m=n
  ·subst e;rfl
  ·rw [last_skip,ih (by omega)]
   cases hp:P m with
   | false=>rfl
   | true=>have:=h m hp;omega
theorem maxOf_some {P:Pl}:∀ {n e:Nat},maxOf P n=some e→P e=true∧e≤n∧∀ i,i≤n→P i=true→i≤e
 | 0,e,h=>by
  unfold maxOf at h
  split at h
  ·rename_i hp
   injection h with h
   subst h
   exact ⟨hp,Nat.le_refl _,fun i hi _=>hi⟩
  ·cases h
 | n+1,e,h=>by
  unfold maxOf at h
  split at h
  ·rename_i hp
   injection h with h
   subst h
   exact ⟨hp,Nat.le_refl _,fun i hi _=>hi⟩
  ·rename_i hp
   obtain ⟨h1,h2,h3⟩:=maxOf_some h
   exact ⟨h1,by omega,fun i hi hpi=>by
    by_cases e:i=n+1
    ·subst e;exact absurd hpi hp
    ·exact h3 i (by omega) hpi⟩
theorem enters_plain1:Enters 47:=enters_of Tryz.func47 (by kernel_rfl) rfl
set_option maxHeartbeats 1000000 in
theorem plain1_any (w:World) (bE a:Nat) (v:Int) (h:blk w bE=#[.int .i64 v]):Calls Tryz.prog 47 #[.int .i64 a,.pointer (some ⟨bE,0,none⟩)] w fun e w'=>e=.returned (.bool true)∧blk w' bE=#[.int .i64 a]∧Chg (fun b=>b=bE) w w':=by
 have c0:w.cell? ⟨bE,0,none⟩=some (.int .i64 v):=Blk.cell h (by simp) 0
 have hf:∀ j,w.frozen? ⟨bE,j,none⟩=false:=fun j=>Blk.free h (by simp) j
 have iE:InHeap bE w:=Blk.inHeap h (by simp)
 have hb:=pa_put h (by simp) 0 (.int .i64 (a:Int))
 have HB:=Lib.hid hb
 clear h hb
 go_enter Tryz.func47,Tryz.ntmps47
 go_wp2_with fail
 go_ret
 exact ⟨rfl,by rw [HB.out];simp,chg_cell _ _ _ _⟩
theorem plain_world {w w1:World} {s:List UInt8} (h:w1=((w.alloc (Obj.cells (spC spZero) 35)).alloc (Obj.map #[] 0)).alloc (Obj.cells #[.string (tx s),.map (some (w.heap.size+1))] 115)) :
  blk w1 w.heap.size=spC spZero∧w1.heap[w.heap.size+1]?=some (.map #[] 0)∧blk w1 (w.heap.size+1+1)=#[.string (tx s),.map (some (w.heap.size+1))]∧Grows w w1∧w1.heap.size=w.heap.size+3:=by
 subst h
 refine ⟨?_,?_,blk_alloc_at _ _ _ _ (by simp),(((Grows.refl w).alloc _).alloc _).alloc _,by simp⟩
 ·have h1:blk (w.alloc (.cells (spC spZero) 35)) w.heap.size=spC spZero:=blk_alloc_at _ _ _ _ rfl
  obtain ⟨m,hm⟩:=((Grows.refl (w.alloc (.cells (spC spZero) 35))).alloc (.map #[] 0)).alloc (.cells #[.string (tx s),.map (some (w.heap.size+1))] 115)
  rw [hm,blk_more _ _ _ (by unfold InHeap;simp)]
  exact h1
 ·have h2:((w.alloc (Obj.cells (spC spZero) 35)).alloc (Obj.map #[] 0)).heap[(w.alloc (Obj.cells (spC spZero) 35)).heap.size]?=some (.map #[] 0):=World.alloc_heap_new _ _
  have h3:(w.alloc (Obj.cells (spC spZero) 35)).heap.size=w.heap.size+1:=by simp
  rw [h3] at h2
  rw [Below.heap_alloc _ _ _ (by simp)]
  exact h2
theorem results_sp2 {fn:Func} {T:Array Value} {w:World} {b:Nat} {c:Array Value} {v:Value} (k j:Nat) (h:fn.results=#[.cell k 35,.tmp j]) (hT:T.getD k undef=.pointer (some ⟨b,0,none⟩)) (hj:T.getD j undef=v) (hb:blk w b=c) (hc:c.size=20):(results fn T).run Tryz.prog w=.ok (.tuple #[.agg c,v]) w:=by
 have:=loadVarSp hb hc
 rw [Array.getD_eq_getD_getElem?] at hT hj
 simp [results,h,hT,hj,asAddr,this]
theorem chg_setBlkM {w:World} {g:Nat} {c:Array Value} {K:Nat→Prop} (hk:K g):Chg K w (setBlk w g c):=by
 refine ⟨rfl,rfl,rfl,by simp,fun b _ hp=>?_⟩
 have hne:g≠b:=fun e=>hp (e ▸ hk)
 show (w.heap.modify g _)[b]?=w.heap[b]?
 rw [Array.getElem?_modify,if_neg hne]
theorem over_none:over (spC spZero) 0 (spC spNone)=spC spNone:=over_all (by rw [spC_size,spC_size];rfl)
attribute [local go_sem ↓] ldSp_eq stSp_eq zeroSp bldSp_eq
attribute [local go_sem] loadSp loadSp_if storeSp storeSp_if spC_one bldSp_run over_none
section
variable {s:List UInt8} {Nm:Nat→NdV→Fr→Prop}
def PlainPost (R:Option Spn) (e:Ending):Prop:=match R with
 | none=>e=.returned (.tuple #[spV spZero,.bool false])
 | some g=>e=.returned (.tuple #[spV g,.bool true])
set_option maxRecDepth 100000 in
set_option maxHeartbeats 8000000 in
theorem plain_any (hs:s.length≤60000) (hN:NumOk Nm) (f:Fr) (m:Nat) (ok:Nat→Prop) (A:Option Addr) (cap k0:Nat) (w:World) (hall:AllNum Nm f m) (hnf:NfAt ok w A cap f m) (hz:TzAt w) (hk:k0≤s.length) :
  Calls Tryz.prog 26 #[.slice A f.len cap,.string (tx s),.int .i64 k0] w fun e w'=>PlainPost (plainV s f (s.length+1 - k0) k0) e∧Grows w w':=by
 have hW:=wds_le hs
 obtain ⟨lo,hlo⟩:∃ z,z=w.heap.size:=⟨_,rfl⟩
 have hnf2:NfAt (fun b=>b < lo) w A cap f m:=hnf.mono fun b hb _=>by omega
 have hzl:0 < lo:=by have:=hz.lt;omega
 have HNF:=Lib.hid hnf2
 have HALL:=Lib.hid hall
 have HN:=Lib.hid hN
 have HZ:=Lib.hid hz
 obtain ⟨R,hR⟩:∃ R,plainV s f (s.length+1 - k0) k0=R:=⟨_,rfl⟩
 rw [hR]
 have HR:=Lib.hid hR
 have HLO:=Lib.hid hlo
 clear hnf hnf2 hall hN hz hR hlo
 go_enter Tryz.func26,Tryz.ntmps26
 have hmm:=@run_makeMap Tryz.prog
 go_wp2_with fail
 generalize hw1:((w.alloc (Obj.cells (spC spZero) 35)).alloc (Obj.map #[] 0)).alloc (Obj.cells #[.string (tx s),.map (some (w.heap.size+1))] 115)=w1
 obtain ⟨hbR,hmap,hbl,hg1,hz1⟩:=plain_world hw1.symm
 clear hw1
 obtain ⟨tb,htb⟩:∃ z,z=w.heap.size+1+1:=⟨_,rfl⟩
 obtain ⟨r,hr⟩:∃ z,z=w.heap.size+1:=⟨_,rfl⟩
 obtain ⟨R0,hR0⟩:∃ z,z=w.heap.size:=⟨_,rfl⟩
 rw [← htb,← hr] at hbl
 rw [← hr] at hmap
 rw [← hR0] at hbR
 rw [← htb,← hr,← hR0]
 have hT1:TbAt s Nm tb r lo (fun b=>lo+3≤b) w1:=by
  have hll:=HLO.out
  exact ⟨hbl,⟨_,_,hmap,fun e he=>by simp at he⟩,HZ.out.grows hg1,by omega,by omega,by omega,hzl⟩
 have HB:Hid (tb=lo+2∧r=lo+1∧R0=lo):=Lib.hid (by have hll:=HLO.out;omega)
 have HT1:=Lib.hid hT1
 have HBR:=Lib.hid hbR
 have HG1:=Lib.hid hg1
 clear hT1 hbR hmap hbl hg1 hz1 htb hr hR0 hmm
 go_loopg [9] (s.length+1 - k0) (fun q0 v9 wr=>∃ k:Nat,v9=.int .i64 k∧q0+k=s.length+1∧TbAt s Nm tb r lo (fun b=>lo+3≤b) wr∧blk wr R0=spC spZero∧Grows w wr∧plainV s f q0 k=R)
 case atStart=>exact ⟨k0,rfl,by omega,HT1.out,HBR.out,HG1.out,HR.out⟩
 case round =>
  obtain ⟨k,rfl,hq,hT,hbR,hG,hP⟩:=hrel
  clear HT1 HBR HG1
  obtain ⟨h1,h2,h3⟩:=HB.out
  by_cases hkn:k≤s.length
  ·have hki:(k:Int)≤(s.length:Int):=by omega
   obtain ⟨q1,hq1⟩:∃ q1,gk=q1+1:=⟨gk - 1,by omega⟩
   have hg2:Grows wr (wr.alloc (.cells #[.int .i64 (-1)] 3)):=(Grows.refl _).alloc _
   obtain ⟨bE,hbE⟩:∃ z,z=wr.heap.size:=⟨_,rfl⟩
   have hb2:blk (wr.alloc (.cells #[.int .i64 (-1)] 3)) bE=#[.int .i64 (-1)]:=blk_alloc_at _ _ _ _ hbE
   have hz2:(wr.alloc (.cells #[.int .i64 (-1)] 3)).heap.size=wr.heap.size+1:=by simp
   have hR0l:R0 < wr.heap.size:=Blk.inHeap hbR (by rw [spC_size];decide)
   have hrl:r < wr.heap.size:=hT.rlt
   have htl:tb < wr.heap.size:=hT.inh
   have hll:=hG.below.size
   have hlo:=HLO.out
   have hT2:=(hT.away (c:=bE) (by omega)).grows hg2
   have hR2:=(chg_blk (Chg.of_grows (p:=fun _=>False) hg2) hR0l (fun h=>h)).trans hbR
   have hNF2:NfAt (fun b=>b < lo) (wr.alloc (.cells #[.int .i64 (-1)] 3)) A cap f m:=HNF.out.chg (Chg.of_grows (p:=fun _=>False) (hG.trans hg2)) fun _ _ _ h=>h
   have hcall:=mrow_ok hs HN.out f m A cap k (fun b=>lo+3≤b∧b≠bE) _ HALL.out hNF2 hT2 (fun b hb=>by omega) hkn
   have HP:=Lib.hid hP
   have HQ:=Lib.hid (And.intro hq hq1)
   have HR2:=Lib.hid hR2
   have HB2:=Lib.hid hb2
   have HNF2:=Lib.hid hNF2
   have HG2:=Lib.hid (hG.trans hg2)
   have HNUM:=Lib.hid (show bE=wr.heap.size∧R0 < bE∧r < bE∧tb < bE∧lo+3≤bE∧r≠R0∧tb≠r∧R0=lo∧r=lo+1∧tb=lo+2 by omega)
   clear hT hbR hG hP hq hq1 hT2 hR2 hNF2 hb2 h1 h2 h3 hlo hll
   go_upto_region 6 with fail
   rw [← hbE]
   clear hbE hg2
   generalize wr.alloc (.cells #[.int .i64 (-1)] 3)=w2 at *
   go_wp2_with fail
   (with_reducible refine hcall.mono ?_)
   rintro e9 w3 ⟨bR,rfl,hP3,hlo3,hT3,hC3⟩
   obtain ⟨n1,n2,n3,n4,n5,n6,n7,n8,n9,n10⟩:=HNUM.out
   have hbE2:bE < w2.heap.size:=Blk.inHeap HB2.out (by simp)
   have hE3:=(chg_blk hC3 hbE2 (by omega)).trans HB2.out
   have hR3:=(chg_blk hC3 (by omega) (fun e=>n6 e.symm)).trans HR2.out
   have hs23:=hC3.size
   have hin:∀ i,endsF s f k i=true→i≤s.length:=fun i h=>(endsF_rises s f k i hkn h).2
   have hV:EachV (.func (.func 47) #[] #[.pointer (some ⟨bE,0,none⟩)]) (wds s.length) (endsF s f k) 47 #[.pointer (some ⟨bE,0,none⟩)]
     (fun j wj=>blk wj bE=#[.int .i64 (lastI (endsF s f k) j)]∧Chg (fun y=>y=bE) w3 wj):=by
    refine ⟨rfl,enters_plain1,fun j wj hj hPj ⟨g1,g2⟩=>?_,fun j wj hPj ⟨g1,g2⟩=>⟨by rw [last_skip hPj];exact g1,g2⟩⟩
    refine (plain1_any wj bE j _ g1).mono ?_
    rintro e w' ⟨rfl,g3,g4⟩
    exact ⟨rfl,by rw [last_next hPj];exact g3,g2.trans g4⟩
   have heach:=each_any (w:=w3) (b:=bR) hV ⟨hE3,Chg.refl _ _⟩ (fun j wj ⟨g1,g2⟩=>hP3.chg g2 (by omega)) (fun j wj ⟨g1,g2⟩=>hT3.tz.chg g2 (by have:=hT3.ltz;omega)) hW
   have hlast:lastI (endsF s f k) (64*wds s.length)=match maxOf (endsF s f k) s.length with | none=>-1 | some e=>(e:Int):=by
    rw [last_far hin _ (wds_lt (Nat.le_refl s.length)),last_max]
   have HL:=Lib.hid hlast
   have HT3:=Lib.hid hT3
   have HR3:=Lib.hid hR3
   have HC3:=Lib.hid hC3
   clear hcall hP3 hlo3 hT3 hC3 hE3 hR3 hin hV hlast n1 n2 n3 n4 n5 n6 n7 n8 n9 n10
   go_wp2_with fail
   (with_reducible refine heach.mono ?_)
   rintro e9 w4 ⟨rfl,hE4,hC4⟩
   rw [HL.out] at hE4
   obtain ⟨n1,n2,n3,n4,n5,n6,n7,n8,n9,n10⟩:=HNUM.out
   have hT4:=HT3.out.put hC4 (fun h=>h.2 rfl) (by omega) (by omega) (by omega)
   have hs34:=hC4.size
   have hR4:=(chg_blk hC4 (by omega) (by omega)).trans HR3.out
   have hG4:Grows w w4:=by
    have hlo:=HLO.out
    exact Chg.grows (n:=0) HG2.out (chg_late (HC3.out.mono (q:=fun y=>y=r∨y=bE) fun _ _ h=>.inl h) hC4 fun _ _ h=>.inr h) fun b hb=>by omega
   have HT4:=Lib.hid hT4
   have HR4:=Lib.hid hR4
   have HG4:=Lib.hid hG4
   clear heach hT4 hR4 hG4 hC4 HT3 HR3 HC3 HL n1 n2 n3 n4 n5 n6 n7 n8 n9 n10
   cases hmx:maxOf (endsF s f k) s.length with
   | none =>
    rw [hmx] at hE4
    have e4:w4.cell? ⟨bE,0,none⟩=some (.int .i64 (-1)):=Blk.cell hE4 (by simp) 0
    have HP2:Hid (plainV s f q1 (k+1)=R):=Lib.hid (by
     have:=HP.out
     rw [HQ.out.2] at this
     unfold plainV at this
     rw [hmx] at this
     exact this)
    clear hE4 hmx
    go_wp2_with fail
    go_roundg q1
    case measure=>have:=HQ.out;omega
    case rel=>exact ⟨k+1,by simp,by have:=HQ.out;omega,HT4.out.mono fun b _ h=>h.1,HR4.out,HG4.out,HP2.out⟩
   | some e =>
    rw [hmx] at hE4
    obtain ⟨x1,x2,x3⟩:=maxOf_some hmx
    have hke:k≤e:=(endsF_rises s f k e hkn x1).1
    have e4:w4.cell? ⟨bE,0,none⟩=some (.int .i64 e):=Blk.cell hE4 (by simp) 0
    have hRs:R=some (spSet (giveV s f k e spNone) 0 k e):=by
     have:=HP.out
     rw [HQ.out.2] at this
     unfold plainV at this
     rw [hmx] at this
     exact this.symm
    subst hRs
    have HE4:=Lib.hid hE4
    have HX:=Lib.hid x1
    have hnone:=none_any w4
    clear hE4 hmx x3 x1 HP HR
    go_wp2_with fail
    (with_reducible refine hnone.mono ?_)
    rintro e9 w5 ⟨rfl,hg5⟩
    obtain ⟨n1,n2,n3,n4,n5,n6,n7,n8,n9,n10⟩:=HNUM.out
    have hs45:=hg5.below.size
    have hs24:w2.heap.size≤w4.heap.size:=by omega
    have hg6:Grows w5 (w5.alloc (.cells (spC spNone) 35)):=(Grows.refl _).alloc _
    obtain ⟨G,hGe⟩:∃ z,z=w5.heap.size:=⟨_,rfl⟩
    have hz6:(w5.alloc (.cells (spC spNone) 35)).heap.size=w5.heap.size+1:=by simp
    have hS6:SpAt (w5.alloc (.cells (spC spNone) 35)) G spNone:=⟨blk_alloc_at _ _ _ _ hGe,rfl⟩
    have hg46:=hg5.trans hg6
    have hT6:=(HT4.out.away (c:=G) (by omega)).grows hg46
    have hE6:=(chg_blk (Chg.of_grows (p:=fun _=>False) hg46) (Blk.inHeap HE4.out (by simp)) (fun h=>h)).trans HE4.out
    have hR6:=(chg_blk (Chg.of_grows (p:=fun _=>False) hg46) (Blk.inHeap HR4.out (by rw [spC_size];decide)) (fun h=>h)).trans HR4.out
    have hNF6:NfAt (fun b=>b < lo) (w5.alloc (.cells (spC spNone) 35)) A cap f m:=HNF.out.chg (Chg.of_grows (p:=fun _=>False) (HG4.out.trans hg46)) fun _ _ _ h=>h
    have hgive:=mgive_ok hs HN.out f m A cap k e G spNone (fun b=>(lo+3≤b∧b≠bE)∧b≠G) _ HALL.out hNF6 hT6 (fun b hb=>by omega) hke x2 HX.out hS6 (fun h=>h.2 rfl) (by omega) (by omega) (by omega)
    have e6:(w5.alloc (.cells (spC spNone) 35)).cell? ⟨bE,0,none⟩=some (.int .i64 e):=Blk.cell hE6 (by simp) 0
    have iE6:InHeap bE (w5.alloc (.cells (spC spNone) 35)):=Blk.inHeap hE6 (by simp)
    have HE6:=Lib.hid hE6
    have HR6:=Lib.hid hR6
    have HG6:=Lib.hid (HG4.out.trans hg46)
    have HGN:=Lib.hid (show G=w5.heap.size∧G≠bE∧G≠r∧G≠R0∧bE≠r∧R0≠r∧w.heap.size≤G∧w.heap.size≤r∧w.heap.size≤R0 by have hlo:=HLO.out;omega)
    clear hnone hT6 hE6 hR6 hNF6 hS6 hg6 hg46 hg5 HT4 HR4 HG4 HE4 e4 n1 n2 n3 n4 n5 n6 n7 n8 n9 n10
    go_upto_region 9 with fail
    rw [← hGe]
    clear hGe hz6
    generalize w5.alloc (.cells (spC spNone) 35)=w6 at *
    go_wp2_with fail
    (with_reducible refine hgive.mono ?_)
    rintro e9 w7 ⟨rfl,hS7,hT7,hC7⟩
    obtain ⟨n1,n2,n3,n4,n5,n6,n7,n8,n9⟩:=HGN.out
    have hE7:=(chg_blk hC7 (Blk.inHeap HE6.out (by simp)) (by omega)).trans HE6.out
    have hR7:=(chg_blk hC7 (Blk.inHeap HR6.out (by rw [spC_size];decide)) (by omega)).trans HR6.out
    have e7:w7.cell? ⟨bE,0,none⟩=some (.int .i64 e):=Blk.cell hE7 (by simp) 0
    have g0:=hS7.cell (k:=0) (by omega)
    have g1:=hS7.cell (k:=1) (by omega)
    have gf:=hS7.free
    have iG:InHeap G w7:=hS7.inh
    have hG7:Grows w w7:=Chg.grows (n:=0) HG6.out hC7 fun b hb=>by omega
    have hS8:=hS7.put 0 k e
    have hc8:=sp_chg w7 G 0 (.int .i64 k) (.int .i64 e)
    rw [Nat.zero_mul] at hS8 hc8
    have hR8:=(chg_blk hc8 (Blk.inHeap hR7 (by rw [spC_size];decide)) (fun e=>n4 e.symm)).trans hR7
    have hG8:=Chg.grows (n:=0) hG7 hc8 fun b hb=>by omega
    have hl8:=loadSp_all _ G _ hS8.eq (by rw [spC_size];exact hS8.len)
    have hst8:=storeSp_all _ R0 (spC (spSet (giveV s f k e spNone) 0 k e)) hR8 (by rw [spC_size];rfl) (by rw [spC_size];exact hS8.len) (spC_one _)
    have hz0:0 < (spC spZero).size:=by rw [spC_size];decide
    have hgl:(spSet (giveV s f k e spNone) 0 k e).length=20:=hS8.len
    generalize (giveV s f k e spNone).getD 0 0=z0 at g0
    generalize (giveV s f k e spNone).getD 1 0=z1 at g1
    have HS8:=Lib.hid hS8
    have HR8:=Lib.hid hR8
    have HG8:=Lib.hid hG8
    have HGL:=Lib.hid hgl
    clear hgive hS7 hT7 hC7 hE7 hR7 hG7 hS8 hc8 hR8 hG8 hz0 hgl n1 n2 n3 n4 n5 n6 n7 n8 n9
    go_wp2_with fail
    exact bodyPost_ret (results_sp2 6 7 rfl rfl rfl (Blk.get _ HR8.out (by rw [spC_size];decide)) (by rw [spC_size];exact HGL.out)) rfl ⟨rfl,Chg.grows (n:=0) HG8.out (chg_setBlkM (K:=fun b=>b=R0) rfl) fun b hb=>by have:=HGN.out;omega⟩
  ·have hki:¬ (k:Int)≤(s.length:Int):=by omega
   have hkb:decide (k≤s.length)=false:=decide_eq_false hkn
   have hq0:gk=0:=by omega
   have hRn:R=none:=by rw [← hP,hq0];rfl
   subst hRn
   have hst:=storeSp_all wr R0 (spC spZero) hbR (by rw [spC_size];rfl) (by rw [spC_size];rfl) (spC_one _)
   rw [Blk.same hbR (by rw [spC_size];decide)] at hst
   have HR9:=Lib.hid hbR
   have HG9:=Lib.hid hG
   clear hP HR hbR hG hT hq0 hq h1 h2 h3
   go_wp2_with fail
   exact bodyPost_ret (results_sp2 6 7 rfl rfl rfl HR9.out (by rw [spC_size];rfl)) rfl ⟨rfl,HG9.out⟩
end
end Go.Proofs.YtnjagecmhdagkaaGreatDoor
