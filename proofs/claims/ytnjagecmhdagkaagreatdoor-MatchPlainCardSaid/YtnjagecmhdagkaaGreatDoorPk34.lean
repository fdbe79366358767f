/-
 Several texts of the proof: MatSf, MatSg, MatSh.
-/
import Derived.Test.YtnjagecmhdagkaaGreatDoorPk33
set_option linter.unusedSimpArgs false
set_option linter.unusedVariables false
set_option maxRecDepth 3000
/-
  Matches by all ways: a row is gone through, walked.
-/
namespace Go.Proofs.YtnjagecmhdagkaaGreatDoor
open Go.RowKit
section
variable {s:List UInt8} {fuel:Int} {sb rb ob lo:Nat} {σ:Sg} {w w':World}
structure RvAt (sb:Nat) (a:Nat) (g:Spn) (WA:Option Addr) (wl wk:Nat) (v:Value) (bM bA bG bW bO:Nat) (w:World):Prop where
 m:blk w bM=#[.pointer (some ⟨sb,0,none⟩)]
 a:blk w bA=#[.int .i64 a]
 g:SpAt w bG g
 wy:blk w bW=#[.slice WA wl wk]
 o:blk w bO=#[v]
section
variable {a:Nat} {g:Spn} {WA:Option Addr} {wl wk:Nat} {v:Value} {bM bA bG bW bO:Nat} {p:Nat→Prop}
theorem RvAt.chg (h:RvAt sb a g WA wl wk v bM bA bG bW bO w) (hc:Chg p w w') (hp:¬ p bM∧¬ p bA∧¬ p bG∧¬ p bW∧¬ p bO):RvAt sb a g WA wl wk v bM bA bG bW bO w' :=
 ⟨(chg_blk hc (Blk.inHeap h.m (by simp)) hp.1).trans h.m,(chg_blk hc (Blk.inHeap h.a (by simp)) hp.2.1).trans h.a,h.g.chg hc hp.2.2.1,(chg_blk hc (Blk.inHeap h.wy (by simp)) hp.2.2.2.1).trans h.wy,(chg_blk hc (Blk.inHeap h.o (by simp)) hp.2.2.2.2).trans h.o⟩
theorem RvAt.grows (h:RvAt sb a g WA wl wk v bM bA bG bW bO w) (hg:Grows w w'):RvAt sb a g WA wl wk v bM bA bG bW bO w':=h.chg (Chg.of_grows (p:=fun _=>False) hg) ⟨fun h=>h,fun h=>h,fun h=>h,fun h=>h,fun h=>h⟩
theorem RvAt.mc (h:RvAt sb a g WA wl wk v bM bA bG bW bO w):w.cell? ⟨bM,0,none⟩=some (.pointer (some ⟨sb,0,none⟩)):=Blk.cell h.m (by simp) 0
theorem RvAt.ac (h:RvAt sb a g WA wl wk v bM bA bG bW bO w):w.cell? ⟨bA,0,none⟩=some (.int .i64 a):=Blk.cell h.a (by simp) 0
theorem RvAt.wc (h:RvAt sb a g WA wl wk v bM bA bG bW bO w):w.cell? ⟨bW,0,none⟩=some (.slice WA wl wk):=Blk.cell h.wy (by simp) 0
theorem RvAt.oc (h:RvAt sb a g WA wl wk v bM bA bG bW bO w):w.cell? ⟨bO,0,none⟩=some v:=Blk.cell h.o (by simp) 0
theorem RvAt.gl (h:RvAt sb a g WA wl wk v bM bA bG bW bO w):loadPart Tryz.prog w 35 bG 0 20=.ok (spV g) w:=loadSp_all w bG (spC g) h.g.eq (by rw [spC_size];exact h.g.len)
end
def TwoWays (w:World) (c1 c2:Array Value) (v1 v2:Value) (w':World):Prop:=(TwoAt w c1 c2 w'∧v1=.pointer (some ⟨w.heap.size,0,none⟩)∧v2=.pointer (some ⟨w.heap.size+1,0,none⟩))∨(TwoAt w c2 c1 w'∧v1=.pointer (some ⟨w.heap.size+1,0,none⟩)∧v2=.pointer (some ⟨w.heap.size,0,none⟩))
theorem TwoWays.get {w w':World} {c1 c2:Array Value} {v1 v2:Value} (h:TwoWays w c1 c2 v1 v2 w'):∃ b1 b2,v1=.pointer (some ⟨b1,0,none⟩)∧v2=.pointer (some ⟨b2,0,none⟩)∧blk w' b1=c1∧blk w' b2=c2∧Grows w w'∧w.heap.size≤b1∧w.heap.size≤b2:=by
 rcases h with ⟨h,e1,e2⟩ | ⟨h,e1,e2⟩
 ·exact ⟨_,_,e1,e2,h.fst,h.snd,h.grows,Nat.le_refl _,Nat.le_succ _⟩
 ·exact ⟨_,_,e1,e2,h.snd,h.fst,h.grows,Nat.le_succ _,Nat.le_refl _⟩
theorem SrAt.tick (h:SrAt s fuel sb rb ob σ w):SrAt s fuel sb rb ob { σ with spent:=σ.spent+1 } (w.setCell ⟨sb,2,none⟩ (.int .i64 ((σ.spent:Int)+1))):=by
 obtain ⟨A,n,c,h1,h2⟩:=h
 have hc:=chg_cell w sb 2 (.int .i64 ((σ.spent:Int)+1))
 have hsz:(blk w sb).size=5:=by rw [h1];rfl
 refine ⟨A,n,c,?_,?_⟩
 ·rw [pa_put h1 (by simp [srC])]
  simp [srC]
 ·dsimp only
  cases hb:σ.best with
  | none =>
   rw [hb] at h2
   obtain ⟨g1,g2,g3,g4,g5⟩:=h2
   have n1:rb≠sb:=fun e=>by rw [e] at g4;rw [g4,spC_size] at hsz;cases hsz
   have n2:ob≠sb:=fun e=>by rw [e] at g5;rw [g5] at hsz;cases hsz
   exact ⟨g1,g2,g3,(chg_blk hc (Blk.inHeap g4 (by rw [spC_size];decide)) n1).trans g4,(chg_blk hc (Blk.inHeap g5 (by simp)) n2).trans g5⟩
  | some y =>
   rw [hb] at h2
   obtain ⟨g1,g2,g3,g4,g5⟩:=h2
   have n1:rb≠sb:=fun e=>by rw [e] at g3;rw [g3,spC_size,g4] at hsz;cases hsz
   have n2:ob≠sb:=fun e=>by rw [e] at g5;rw [g5] at hsz;cases hsz
   exact ⟨g1,g2.chg hc (fun b _ hb e=>hb (.inl e)),(chg_blk hc (Blk.inHeap g3 (by rw [spC_size,g4];decide)) n1).trans g3,g4,(chg_blk hc (Blk.inHeap g5 (by simp)) n2).trans g5⟩
theorem gro0 (w:World):Grows w w ↔ True:=⟨fun _=>trivial,fun _=>Grows.refl w⟩
theorem gro1 (w:World):Grows w w.drew ↔ True:=⟨fun _=>trivial,fun _=>(Grows.refl w).drew⟩
theorem gro2 (w:World) (n:Nat):Grows w (w.drewN n) ↔ True:=⟨fun _=>trivial,fun _=>(Grows.refl w).drewN n⟩
theorem gro3 (w:World) (o:Obj):Grows w (w.alloc o) ↔ True:=⟨fun _=>trivial,fun _=>(Grows.refl w).alloc o⟩
theorem gro4 (w:World) (o:Obj):Grows w (w.alloc o).drew ↔ True:=⟨fun _=>trivial,fun _=>((Grows.refl w).alloc o).drew⟩
theorem gro5 (w:World) (o:Obj) (n:Nat):Grows w ((w.alloc o).drewN n) ↔ True:=⟨fun _=>trivial,fun _=>((Grows.refl w).alloc o).drewN n⟩
theorem gro6 (w:World) (o:Obj) (o2:Obj):Grows w ((w.alloc o).alloc o2) ↔ True:=⟨fun _=>trivial,fun _=>((Grows.refl w).alloc o).alloc o2⟩
theorem gro7 (w:World) (o:Obj) (o2:Obj):Grows w ((w.alloc o).alloc o2).drew ↔ True:=⟨fun _=>trivial,fun _=>(((Grows.refl w).alloc o).alloc o2).drew⟩
theorem gro8 (w:World) (o:Obj) (o2:Obj) (n:Nat):Grows w (((w.alloc o).alloc o2).drewN n) ↔ True:=⟨fun _=>trivial,fun _=>(((Grows.refl w).alloc o).alloc o2).drewN n⟩
attribute [local go_sem ↓] zeroNm ldNm_eq stNm_eq ldSp_eq stSp_eq zeroSp ldNode_eq
attribute [local go_sem] loadNode gro0 gro1 gro2 gro3 gro4 gro5 gro6 gro7 gro8 loadNm storeNm storeNm_if nm_one_nd nm_size_nd over_nm span_nm loadSp loadSp_if storeSp storeSp_if spC_one
set_option maxRecDepth 100000 in
set_option maxHeartbeats 8000000 in
theorem srow_any (hs:s.length≤60000) (hfu:fuel≤1000000000) (hlo:lo≤sb∧lo≤rb∧lo≤ob) (f:Fr) (hsub:∀ x k r,f=.cons x k r→SRowC s fuel sb rb ob lo k∧SRowC s fuel sb rb ob lo r):SRowC s fuel sb rb ob lo f:=by
 intro m A cap a g ws WA wk v K σ w hnd hnf ha hg hws hwl hK hsr
 have hlts:=hsr.lts
 have hgl:=hg.len
 have hspz:(spC g).size=20:=by rw [spC_size];exact hgl
 obtain ⟨f0,caps,hv,hent,hcont⟩:=hK
 have hK:ContC s fuel sb rb ob w v K a:=⟨f0,caps,hv,hent,hcont⟩
 subst hv
 have HND:=Lib.hid hnd
 have HNF:=Lib.hid hnf
 have HG:=Lib.hid hg
 have HWS:=Lib.hid hws
 have HK:=Lib.hid hK
 have HSR:=Lib.hid hsr
 have HCO:=Lib.hid hcont
 have HENT:=Lib.hid hent
 have HLO:=Lib.hid hlo
 have HWL:=Lib.hid hwl
 have HSUB:=Lib.hid hsub
 obtain ⟨S,hS⟩:∃ S,runE K fuel (evR s f a g ws) σ=S:=⟨_,rfl⟩
 rw [hS]
 have HS:=Lib.hid hS
 have ha6:a≤60000:=by omega
 clear hnd hnf hg hws hK hsr hcont hent hlo hS hwl hsub
 go_enter Tryz.func40,Tryz.ntmps40
 go_upto_region 1 with fail
 have hL:=(((((LaidAt.start w).alloc #[.pointer (some ⟨sb,0,none⟩)] 104).alloc #[.int .i64 a] 3).alloc (spC g) 35).alloc #[.slice WA ws.len wk] 105).alloc #[.func (.func f0) #[] caps] 138
 generalize ((((w.alloc (Obj.cells #[.pointer (some ⟨sb,0,none⟩)] 104)).alloc (Obj.cells #[.int .i64 a] 3)).alloc (Obj.cells (spC g) 35)).alloc (Obj.cells #[.slice WA ws.len wk] 105)).alloc (Obj.cells #[.func (.func f0) #[] caps] 138)=w1 at *
 obtain ⟨bO,hbO⟩:∃ z,z=w.heap.size+1+1+1+1:=⟨_,rfl⟩
 obtain ⟨bW,hbW⟩:∃ z,z=w.heap.size+1+1+1:=⟨_,rfl⟩
 obtain ⟨bG,hbG⟩:∃ z,z=w.heap.size+1+1:=⟨_,rfl⟩
 obtain ⟨bA,hbA⟩:∃ z,z=w.heap.size+1:=⟨_,rfl⟩
 obtain ⟨bM,hbM⟩:∃ z,z=w.heap.size:=⟨_,rfl⟩
 rw [← hbO,← hbW,← hbG,← hbA,← hbM]
 have hV1:RvAt sb a g WA ws.len wk (.func (.func f0) #[] caps) bM bA bG bW bO w1:=⟨by rw [hbM];exact hL.blk 0 _ rfl,by rw [hbA];exact hL.blk 1 _ rfl,⟨by rw [hbG];exact hL.blk 2 _ rfl,hgl⟩,by rw [hbW];exact hL.blk 3 _ rfl,by rw [hbO];exact hL.blk 4 _ rfl⟩
 have hg1:=hL.grows
 have hz1:w1.heap.size=w.heap.size+5:=hL.size
 have NE:Hid (¬ MutB sb rb ob bM∧¬ MutB sb rb ob bA∧¬ MutB sb rb ob bG∧¬ MutB sb rb ob bW∧¬ MutB sb rb ob bO):=Lib.hid (by unfold MutB;omega)
 have V1:=Lib.hid hV1
 have G1:=Lib.hid hg1
 have SR1:=Lib.hid (HSR.out.grows hg1)
 have hcontw:=HCO.out
 clear hL hbM hbG hbA hbW hbO hg1 hz1 hlts
 obtain ⟨bb,hbb⟩:=SR1.out.sbblk
 have hover:=over_any w1 sb s fuel σ.spent bb _ hbb
 obtain ⟨O,hO⟩:∃ O,overB fuel σ=O:=⟨_,rfl⟩
 have hO2:decide (fuel < (σ.spent:Int))=O:=hO
 rw [hO2] at hover
 have e1:=hV1.mc
 clear hbb hV1 hO2
 go_wp2_with fail
 (with_reducible refine hover.mono ?_)
 rintro e9 w2 ⟨rfl,hg2⟩
 have V2:=Lib.hid (V1.out.grows hg2)
 have SR2:=Lib.hid (SR1.out.grows hg2)
 have G2:=Lib.hid (G1.out.trans hg2)
 clear hover hg2 e1 V1 SR1 G1
 cases O with
 | true =>
  have hSe:S=σ:=by rw [← HS.out];exact run_over _ hO
  subst hSe
  clear hO HS
  go_wp2_with fail
  exact ⟨rfl,.tuple #[],results_none rfl _ _ _,rfl,SR2.out,Chg.of_grows G2.out⟩
 | false =>
  have HOV:=Lib.hid hO
  clear hO
  cases f with
  | nil =>
   have hSe:S=K a g ws σ:=by rw [← HS.out];exact run_one a g ws HOV.out
   subst hSe
   have hcall:=hcontw a g ws WA wk σ w2 (Chg.of_grows G2.out) (Nat.le_refl _) ha HG.out (HWS.out.grows G2.out) (by have:=HWL.out;simp [Fr.size] at this;exact this) SR2.out HOV.out
   have hen:=HENT.out (#[.int .i64 a,spV g,.slice WA ws.len wk]++caps) w2
   have q1:=V2.out.oc
   have q2:=V2.out.ac
   have q3:=V2.out.wc
   have q4:=V2.out.gl
   clear HS
   go_wp2_with fail
   (with_reducible refine hcall.mono ?_)
   rintro e9 w3 ⟨rfl,hS3,hC3⟩
   have S3:=Lib.hid hS3
   have C3:=Lib.hid ((Chg.of_grows G2.out).trans hC3)
   clear hcall hS3 hC3 hen
   go_wp2_with fail
   exact ⟨rfl,.tuple #[],results_none rfl _ _ _,rfl,S3.out,C3.out⟩
  | cons x k r =>
   obtain ⟨hrk,hrr⟩:=HSUB.out x k r rfl
   obtain ⟨hxo,hndk,hndr⟩:=HND.out
   have hnf2:NfAt (fun b=>b < lo) w2 A cap (.cons x k r) m:=HNF.out.chg (Chg.of_grows (p:=fun _=>False) G2.out) fun _ _ _ h=>h
   have hnode:∃ b o KA kn kc XA xcap,A=some ⟨b,o,none⟩∧NfAt (fun b=>b < lo) w2 XA xcap k (m+1)∧∀ w',Grows w2 w'→loadPart Tryz.prog w' 102 b o 264=.ok (.agg (nmC x (.slice KA kn kc) m (.slice XA k.len xcap))) w':=by
    obtain ⟨xs,g1,g2⟩:=hnf2
    obtain ⟨KA,kn,kc,XA,xcap,g3,g4⟩:=nf_node (a:=.nil) g2
    obtain ⟨b',o',e,_,hc⟩:=g1.rd.2 (by simp [Fr.len])
    refine ⟨b',o',KA,kn,kc,XA,xcap,e,g3,fun w' hg=>nm_load (nmC_size _ _ _ _) fun j u hu=>cellG (hc _ u ?_) hg⟩
    have:=g4 j u hu
    rwa [show (Fr.nil:Fr).len*264+j=j by simp [Fr.len]] at this
   obtain ⟨b0,o0,KA,kn,kc,XA,xcap,hA,hNK,hldG⟩:=hnode
   subst hA
   have hdrop:∃ RA,(if cap=1 then (some ⟨b0,o0,none⟩:Option Addr) else some ⟨b0,o0+264,none⟩)=RA∧NfAt (fun b=>b < lo) w2 RA (cap - 1) r (m+1+k.size):=by
    refine ⟨_,rfl,?_⟩
    have hle:r.len+1≤cap:=by
     obtain ⟨xs,g1,_⟩:=hnf2
     exact g1.le
    have e2:Fr.cons x k r=(Fr.one x k).app r:=rfl
    rw [e2] at hnf2
    have:=hnf2.drop (if cap=1 then (some ⟨b0,o0,none⟩:Option Addr) else some ⟨b0,o0+264,none⟩) (fun hr=>by rw [if_neg (by omega)];rfl) (by split <;> simp)
    rw [show (Fr.one x k).size=1+k.size by simp [Fr.one,Fr.size];omega] at this
    rw [show m+1+k.size=m+(1+k.size) by omega]
    exact this
   obtain ⟨RA,hRA,hNR⟩:=hdrop
   have hcap:(Fr.cons x k r).len≤cap∧cap≤9223372036854775807:=by
    obtain ⟨xs,g1,_⟩:=hnf2
    exact ⟨g1.le,g1.cap63⟩
   obtain ⟨FL,hFL⟩:∃ z,(Fr.cons x k r).len=z:=⟨_,rfl⟩
   have hfl1:FL - 1=r.len:=by rw [← hFL];simp [Fr.len]
   have hfl2:1≤FL:=by rw [← hFL];simp [Fr.len]
   have hflz:((FL:Int) == 0)=false:=by simp;omega
   rw [hFL] at hcap ⊢
   have hfli:(0:Int) < FL:=by omega
   have hfl3:0 < FL:=by omega
   have hfli1:(1:Int)≤FL:=by omega
   have hc1:=hcap.1
   have hc2:=hcap.2
   have HLDG:=Lib.hid hldG
   have HNK:=Lib.hid hNK
   have HNR:=Lib.hid hNR
   have HNDK:=Lib.hid hndk
   have HNDR:=Lib.hid hndr
   have HXO:=Lib.hid hxo
   have HRK:=Lib.hid hrk
   have HRR:=Lib.hid hrr
   clear hrk hrr hxo hndk hndr hnf2 hldG hNK hNR hFL hcap HNF HND HSUB hcontw
   go_upto_region 4 with fail
   go_cut [12,13] (fun v12 v13 wx=>TwoWays w2 (nmC x (.slice KA kn kc) m (.slice XA k.len xcap)) #[.slice RA r.len (cap - 1)] v12 v13 wx)
   case first =>
    have hldG:=HLDG.out
    go_region_law (fail)
    all_goals
     go_wp2_with fail
     go_meet
     first | exact .inl ⟨(by repeat' first | (with_reducible exact TwoAt.start _ _ _ _ _) | (with_reducible refine TwoAt.drewN ?_ _) | (with_reducible refine TwoAt.drew ?_)),rfl,rfl⟩ | exact .inr ⟨(by repeat' first | (with_reducible exact TwoAt.start _ _ _ _ _) | (with_reducible refine TwoAt.drewN ?_ _) | (with_reducible refine TwoAt.drew ?_)),rfl,rfl⟩
   case rest =>
    obtain ⟨bX,bR,rfl,rfl,hbX,hbR,hg3,hlX,hlR⟩:=hcut.get
    have hsb:=SR2.out.lts
    have NE2:Hid (¬ MutB sb rb ob bX∧¬ MutB sb rb ob bR):=Lib.hid (by unfold MutB;omega)
    have V3:=Lib.hid (V2.out.grows hg3)
    have SR3:=Lib.hid (SR2.out.grows hg3)
    have G3:=Lib.hid (G2.out.trans hg3)
    have NK3:Hid (NfAt (fun b=>b < lo) wc XA xcap k (m+1)):=Lib.hid (HNK.out.chg (Chg.of_grows (p:=fun _=>False) hg3) fun _ _ _ h=>h)
    have NR3:Hid (NfAt (fun b=>b < lo) wc RA (cap - 1) r (m+1+k.size)):=Lib.hid (HNR.out.chg (Chg.of_grows (p:=fun _=>False) hg3) fun _ _ _ h=>h)
    have WS3:=Lib.hid (HWS.out.grows G3.out)
    have HBX:=Lib.hid hbX
    have HBR:=Lib.hid hbR
    have HRA:=Lib.hid hRA
    have c0:wc.cell? ⟨bX,0,none⟩=some (.int .i64 x.kind):=((Blk.cell hbX (by rw [nmC_size];decide) 0).trans (nmA_lt (ndA_size _ _ _ _ _ _ _) (by decide))).trans (ndA_0 _ _ _ _ _ _ _)
    have c263:wc.cell? ⟨bX,263,none⟩=some (.slice XA k.len xcap):=(Blk.cell hbX (by rw [nmC_size];decide) 263).trans (nmA_263 (ndA_size _ _ _ _ _ _ _))
    have hwl:=HWL.out
    simp only [Fr.size] at hwl
    have HWL2:=Lib.hid hwl
    clear hcut hg3 hlX hlR hbX hbR hRA V2 SR2 HNK HNR HLDG hsb hwl hfl1 hfl2 hflz hfli hfl3 hfli1 hc1 hc2
    have m3:=V3.out.mc
    have a3:=V3.out.ac
    have g3:=V3.out.gl
    by_cases h7:x.kind=7
    ·have b7:((x.kind:Int) == 7)=true:=by simp;omega
     have hSe:runE (fun e g2 i σ=>runE K fuel (evR s r e (spSet g2 x.n a e) (ws.snoc (e - a) i)) σ) fuel (evR s k a g .nil) σ=S:=by
      rw [← HS.out]
      conv=>rhs;unfold evR
      rw [if_pos h7,run_bind]
     have hne:=NE.out
     have hcont3:=srow1_any KA kn kc m XA xcap HRR.out (m+1+k.size) RA (cap - 1) a ws WA wk (.func (.func f0) #[] caps) K wc V3.out.m HBR.out V3.out.wy V3.out.a V3.out.o HBX.out HXO.out.n NE2.out.1 ⟨⟨hne.1,NE2.out.2,hne.2.2.2.1⟩,hne.2.1,hne.2.2.2.2⟩ HLO.out SR3.out.lts HNDR.out NR3.out WS3.out (by have:=HWL2.out;omega) (HK.out.mono (Chg.of_grows G3.out) (Nat.le_refl _)) hs
     have hcall:=HRK.out (m+1) XA xcap a g .nil none 0 _ _ σ wc HNDK.out NK3.out ha HG.out (WyAt.zero _ _) (by have:=HWL2.out;simp only [Wy.len];omega) hcont3 SR3.out
     rw [hSe,show Wy.nil.len=0 from rfl] at hcall
     clear h7 hSe hcont3 hne
     go_wp2_with fail
     (with_reducible refine hcall.mono ?_)
     rintro e9 w4 ⟨rfl,hS4,hC4⟩
     have S4:=Lib.hid hS4
     have C4:=Lib.hid ((Chg.of_grows G3.out).trans hC4)
     clear hcall hS4 hC4
     go_wp2_with fail
     exact ⟨rfl,.tuple #[],results_none rfl _ _ _,rfl,S4.out,C4.out⟩
    have b7:((x.kind:Int) == 7)=false:=by simp;omega
    by_cases h8:x.kind=8
    ·have b8:((x.kind:Int) == 8)=true:=by simp;omega
     have hSe:runE (fun e g2 i σ=>runE K fuel (evR s r e g2 (ws.snoc (e - a) i)) σ) fuel (evT x (fun a g=>evR s k a g .nil) (unsetV k) (fuelK s.length x a 0) 0 a g .nil) σ=S:=by
      rw [← HS.out]
      conv=>rhs;unfold evR
      rw [if_neg h7,if_pos h8,run_bind]
     have hne:=NE.out
     have hcont3:=srow2_any HRR.out (m+1+k.size) RA (cap - 1) a ws WA wk (.func (.func f0) #[] caps) K wc V3.out.m HBR.out V3.out.wy V3.out.a V3.out.o ⟨⟨hne.1,NE2.out.2,hne.2.2.2.1⟩,hne.2.1,hne.2.2.2.2⟩ HLO.out SR3.out.lts HNDR.out NR3.out WS3.out (by have:=HWL2.out;omega) (HK.out.mono (Chg.of_grows G3.out) (Nat.le_refl _)) hs
     have hfk:fuelK s.length x a 0≤70000:=by
      have h1:=HXO.out.mn
      have h2:=HXO.out.mx
      unfold fuelK
      split <;> omega
     have hcall:=sturns_any hs HLO.out HRK.out (fuelK s.length x a 0) a 0 (Nat.le_refl _) m KA kn kc XA xcap g .nil none 0 _ _ σ wc HNDK.out HXO.out NK3.out ha HG.out (WyAt.zero _ _) (Nat.le_refl _) (by omega) (by have:=HWL2.out;omega) hcont3 SR3.out HOV.out
     rw [hSe,show Wy.nil.len=0 from rfl,show ((0:Nat):Int)=0 from rfl] at hcall
     have hld:=loadNm_all wc bX _ HBX.out (nmC_size _ _ _ _)
     clear h7 h8 hSe hcont3 hne hfk
     go_wp2_with fail
     (with_reducible refine hcall.mono ?_)
     rintro e9 w4 ⟨rfl,hS4,hC4⟩
     have S4:=Lib.hid hS4
     have C4:=Lib.hid ((Chg.of_grows G3.out).trans hC4)
     clear hcall hS4 hC4
     go_wp2_with fail
     exact ⟨rfl,.tuple #[],results_none rfl _ _ _,rfl,S4.out,C4.out⟩
    have b8:((x.kind:Int) == 8)=false:=by simp;omega
    obtain ⟨bb3,hbb3⟩:=SR3.out.sbblk
    have s2:wc.cell? ⟨sb,2,none⟩=some (.int .i64 σ.spent):=Blk.cell hbb3 (by simp [srC]) 2
    have sf:∀ q,wc.frozen? ⟨sb,q,none⟩=false:=fun q=>Blk.free hbb3 (by simp [srC]) q
    have is:InHeap sb wc:=Blk.inHeap hbb3 (by simp [srC])
    have hspb:(σ.spent:Int)≤1000000000:=by
     have:=HOV.out
     unfold overB at this
     rw [decide_eq_false_iff_not] at this
     omega
    have hc4:Chg (MutB sb rb ob) wc (wc.setCell ⟨sb,2,none⟩ (.int .i64 ((σ.spent:Int)+1))):=(chg_cell wc sb 2 _).mono fun b _ hb=>.inl hb
    have V4:=V3.out.chg hc4 NE.out
    have SR4:=SR3.out.tick
    have bX4:=(chg_blk hc4 (Blk.inHeap HBX.out (by rw [nmC_size];decide)) NE2.out.1).trans HBX.out
    have bR4:=(chg_blk hc4 (Blk.inHeap HBR.out (by simp)) NE2.out.2).trans HBR.out
    have NR4:NfAt (fun b=>b < lo) (wc.setCell ⟨sb,2,none⟩ (.int .i64 ((σ.spent:Int)+1))) RA (cap - 1) r (m+1+k.size):=NR3.out.chg hc4 fun b _ hb e=>by have:=HLO.out;unfold MutB at e;omega
    have WS4:=WS3.out.chg hc4 fun _ _ h=>h
    have C4:=(Chg.of_grows (p:=MutB sb rb ob) G3.out).trans hc4
    have HV4:=Lib.hid V4
    have HSR4:=Lib.hid SR4
    have HBX4:=Lib.hid bX4
    have HBR4:=Lib.hid bR4
    have HNR4:=Lib.hid NR4
    have HWS4:=Lib.hid WS4
    have HC4:=Lib.hid C4
    clear hbb3 V4 SR4 bX4 bR4 NR4 WS4 C4 hc4 V3 SR3 G3 NK3 NR3 WS3 HBX HBR c263 g3 a3
    go_upto_region 7 with fail
    clear s2 sf is m3 c0
    generalize wc.setCell ⟨sb,2,none⟩ (.int .i64 ((σ.spent:Int)+1))=w4 at *
    have m4:=HV4.out.mc
    have a4:=HV4.out.ac
    have iM:InHeap bM w4:=World.block_lt_of_cell? _ _ m4
    have iA:InHeap bA w4:=World.block_lt_of_cell? _ _ a4
    have iX:InHeap bX w4:=Blk.inHeap HBX4.out (by rw [nmC_size];decide)
    have iG:InHeap bG w4:=HV4.out.g.inh
    obtain ⟨bb4,hbb4⟩:=HSR4.out.sbblk
    have s0:w4.cell? ⟨sb,0,none⟩=some (.string (tx s)):=Blk.cell hbb4 (by simp [srC]) 0
    have is:InHeap sb w4:=Blk.inHeap hbb4 (by simp [srC])
    have hldx:∀ mm:More,loadPart Tryz.prog (more w4 mm) 95 bX 0 262=.ok (.agg (ndC x (.slice KA kn kc))) (more w4 mm):=fun mm=>nm_ld ((blk_more _ _ _ iX).trans HBX4.out)
    have hldx0:loadPart Tryz.prog w4 95 bX 0 262=.ok (.agg (ndC x (.slice KA kn kc))) w4:=nm_ld HBX4.out
    have hgb:=HV4.out.g.eq
    have hsp:span (spC g) 0 20=spC g:=span_all hspz
    have hone:∀ mm:More,Calls Tryz.prog 69 #[.agg (ndC x (.slice KA kn kc)),.string (tx s),.int .i64 a,spV g] (more w4 mm) fun e w'=>e=.returned (.int .i64 (oneI x s a g))∧Grows (more w4 mm) w':=fun mm=>one_any x KA kn kc s a g (more w4 mm) HG.out ha (fun _=>HXO.out.n) hs
    clear hbb4
    refine region_grows (by kernel_rfl) (by kernel_rfl) ?_
    repeat (go_big_quiet_step ((go_at_call 69;exact calls_grows (hone _))))
    refine wpQuiet_nil ?_
    intro _ hw'
    obtain ⟨m1,rfl⟩:=hw'
    obtain ⟨σ2,hσ2⟩:∃ z,({ σ with spent:=σ.spent+1 }:Sg)=z:=⟨_,rfl⟩
    have hSe:runE K fuel (match oneV x s a g with | none=>[] | some n=>evR s r (a+n) g (ws.snoc n .nil)) σ2=S:=by
     rw [← HS.out]
     conv=>rhs;unfold evR
     rw [if_neg h7,if_neg h8,run_cons]
     congr 1
     rw [← hσ2]
     unfold stepE
     rw [HOV.out]
     rfl
    have hg5:Grows w4 (more w4 m1):=⟨m1,rfl⟩
    have V5:=HV4.out.grows hg5
    have SR5:=HSR4.out.grows hg5
    rw [hσ2] at SR5
    have bR5:=blkG HBR4.out (by simp) hg5
    have NR5:NfAt (fun b=>b < lo) (more w4 m1) RA (cap - 1) r (m+1+k.size):=HNR4.out.chg (Chg.of_grows (p:=fun _=>False) hg5) fun _ _ _ h=>h
    have WS5:=HWS4.out.grows hg5
    have C5:=HC4.out.trans (Chg.of_grows hg5)
    have HV5:=Lib.hid V5
    have HSR5:=Lib.hid SR5
    have HBR5:=Lib.hid bR5
    have HNR5:=Lib.hid NR5
    have HWS5:=Lib.hid WS5
    have HC5:=Lib.hid C5
    have HSE:=Lib.hid hSe
    clear hone hldx hldx0 hgb hsp m4 a4 iM iA iX iG s0 is hg5 V5 SR5 bR5 NR5 WS5 C5 HV4 HSR4 HBX4 HBR4 HNR4 HWS4 HC4 hσ2 hSe b7 b8 h7 h8
    generalize more w4 m1=w5 at *
    cases hov:oneV x s a g with
    | none =>
     have hSe:=HSE.out
     rw [hov] at hSe
     have hSe:σ2=S:=hSe
     subst hSe
     rw [oneI_none hov]
     clear hov HSE HS
     go_wp2_with fail
     exact ⟨rfl,.tuple #[],results_none rfl _ _ _,rfl,HSR5.out,HC5.out⟩
    | some n =>
     have hSe:=HSE.out
     rw [hov] at hSe
     dsimp only at hSe
     have hle:=oneV_le hov ha
     rw [oneI_some hov]
     obtain ⟨bb5,hbb5⟩:=HSR5.out.sbblk
     have hover:=over_any w5 sb s fuel σ2.spent bb5 _ hbb5
     obtain ⟨O,hO⟩:∃ O,overB fuel σ2=O:=⟨_,rfl⟩
     have hO2:decide (fuel < (σ2.spent:Int))=O:=hO
     rw [hO2] at hover
     have m5:=HV5.out.mc
     clear hov HSE HS hbb5 hO2
     go_wp2_with fail
     (with_reducible refine hover.mono ?_)
     rintro e9 w6 ⟨rfl,hg6⟩
     have V6:=HV5.out.grows hg6
     have SR6:=HSR5.out.grows hg6
     have bR6:=blkG HBR5.out (by simp) hg6
     have NR6:NfAt (fun b=>b < lo) w6 RA (cap - 1) r (m+1+k.size):=HNR5.out.chg (Chg.of_grows (p:=fun _=>False) hg6) fun _ _ _ h=>h
     have WS6:=HWS5.out.grows hg6
     have C6:=HC5.out.trans (Chg.of_grows hg6)
     have HV6:=Lib.hid V6
     have HSR6:=Lib.hid SR6
     have HBR6:=Lib.hid bR6
     have HNR6:=Lib.hid NR6
     have HWS6:=Lib.hid WS6
     have HC6:=Lib.hid C6
     clear hover hg6 V6 SR6 bR6 NR6 WS6 C6 HV5 HSR5 HBR5 HNR5 HWS5 HC5 m5
     cases O with
     | true =>
      have hSs:σ2=S:=by rw [← hSe];exact (run_over _ hO).symm
      subst hSs
      clear hSe hO
      go_wp2_with fail
      exact ⟨rfl,.tuple #[],results_none rfl _ _ _,rfl,HSR6.out,HC6.out⟩
     | false =>
      have HSA:Hid (∀ w',Chg (MutB sb rb ob) w6 w'→(w'.cell? ⟨bM,0,none⟩=some (.pointer (some ⟨sb,0,none⟩))∧w'.cell? ⟨bR,0,none⟩=some (.slice RA r.len (cap - 1))∧w'.cell? ⟨bA,0,none⟩=some (.int .i64 a)∧w'.cell? ⟨bW,0,none⟩=some (.slice WA ws.len wk)∧w'.cell? ⟨bO,0,none⟩=some (.func (.func f0) #[] caps)∧w'.rangeAt bG 0 (spC g).toList)):=Lib.hid fun w' hg=>by
       have v6:=HV6.out.chg hg NE.out
       exact ⟨v6.mc,cellC (Blk.cell HBR6.out (by simp) 0) hg NE2.out.2,v6.ac,v6.wc,v6.oc,fun j v hj=>by
        rw [Nat.zero_add,Blk.cell v6.g.eq (by omega),← Array.getElem?_toList];exact hj⟩
      have hu23:=Tryz.underlying35
      have hi23:(Tryz.prog.info? 35).map (·.size)=some (spC g).toList.length:=by rw [Array.length_toList,hspz];kernel_rfl
      have hsb6:=HSR6.out.lts
      have HFR6:Hid (∀ b,w6.heap.size≤b→¬ MutB sb rb ob b):=Lib.hid fun b hb e=>by unfold MutB at e;omega
      have HKW6:=Lib.hid (HK.out.mono HC6.out (Nat.le_refl _))
      have hn9:n≤60000:=by omega
      have hwn:IntKind.i64.wrap (n:Int)=(n:Int):=wrap_small (by omega) (by omega)
      obtain ⟨t2,ht2⟩:∃ z,a+n=z:=⟨_,rfl⟩
      have hwt:IntKind.i64.wrap ((a:Int)+n)=(t2:Int):=by rw [wrap_small (by omega) (by omega)];omega
      have ht2l:t2≤s.length:=by omega
      have hat2:a≤t2:=by omega
      rw [ht2] at hSe
      have HSE2:=Lib.hid hSe
      clear hO hle hsb6 ht2 hSe
      go_upto_region 9 with fail
      go_region_held3 (fun w'=>w'.cell? ⟨bM,0,none⟩=some (.pointer (some ⟨sb,0,none⟩))∧w'.cell? ⟨bR,0,none⟩=some (.slice RA r.len (cap - 1))∧w'.cell? ⟨bA,0,none⟩=some (.int .i64 a)∧w'.cell? ⟨bW,0,none⟩=some (.slice WA ws.len wk)∧w'.cell? ⟨bO,0,none⟩=some (.func (.func f0) #[] caps)∧w'.rangeAt bG 0 (spC g).toList)
       (exact HSA.out _ (by repeat' first | exact Chg.refl _ _ | exact (Chg.of_grows G8.out).trans C9.out | exact Chg.of_grows G8.out | refine chgDrewN ?_ _ | refine chgDrew ?_))
       (first
        | (go_at_call 66;(refine Calls.mono (and_drew WA wk ws n none 0 .nil HWS6.out (WyAt.zero _ _) HFR6.out (by have:=HWL2.out;omega) (by omega) ?_) ?_);(repeat' first | exact Grows.refl _ | exact G8.out | refine Grows.drewN ?_ _ | refine Grows.drew ?_);rintro e9 w8 ⟨A2,c2,rfl,hW8,hG8⟩;have W8:=Lib.hid hW8;have G8:=Lib.hid hG8;clear hW8 hG8)
        | (go_at_call 40;(refine Calls.mono (srow_drew HRR.out (m+1+k.size) RA (cap - 1) t2 g (ws.snoc n .nil) A2 c2 (.func (.func f0) #[] caps) K σ2 HNDR.out (HNR6.out.chg (Chg.of_grows (p:=fun _=>False) G8.out) (fun _ _ _ h=>h)) ht2l HG.out W8.out (by have:=HWL2.out;rw [Wy.len_snoc];omega) (HKW6.out.mono (Chg.of_grows G8.out) hat2) (HSR6.out.grows G8.out) ?_) ?_);(repeat' first | exact Grows.refl _ | exact G8.out | refine Grows.drewN ?_ _ | refine Grows.drew ?_);rintro e9 w9 ⟨rfl,hS9,hC9⟩;have S9:=Lib.hid hS9;have C9:=Lib.hid hC9;clear hS9 hC9))
      go_wp2_with fail
      exact ⟨rfl,.tuple #[],results_none rfl _ _ _,rfl,by rw [← HSE2.out];exact S9.out.grows (by repeat' first | exact Grows.refl _ | refine Grows.drewN ?_ _ | refine Grows.drew ?_),HC6.out.trans ((Chg.of_grows G8.out).trans (C9.out.trans (Chg.of_grows (by repeat' first | exact Grows.refl _ | refine Grows.drewN ?_ _ | refine Grows.drew ?_))))⟩
end
end Go.Proofs.YtnjagecmhdagkaaGreatDoor
namespace Go.Proofs.YtnjagecmhdagkaaGreatDoor
open Go.RowKit
section
variable {s:List UInt8} {fuel:Int} {sb rb ob lo:Nat}
theorem srow_ok (hs:s.length≤60000) (hfu:fuel≤1000000000) (hlo:lo≤sb∧lo≤rb∧lo≤ob):∀ f:Fr,SRowC s fuel sb rb ob lo f:=by
 intro f
 induction f with
 | nil=>exact srow_any hs hfu hlo .nil fun x k r e=>by cases e
 | cons x k r ihk ihr=>exact srow_any hs hfu hlo (.cons x k r) fun x' k' r' e=>by cases e;exact ⟨ihk,ihr⟩
end
def longsV:Wy→Wy→Int
 | .cons a _ r,.cons b _ r2=>if (a:Int) - b≠0 then (a:Int) - b else longsV r r2
 | _,_=>0
def withB:Wy→Wy→Int
 | .cons _ k r,.cons _ k2 r2=>if (if longsV k k2≠0 then longsV k k2 else withB k k2)≠0 then (if longsV k k2≠0 then longsV k k2 else withB k k2) else withB r r2
 | _,_=>0
def betterV (a b:Wy):Int:=if longsV a b≠0 then longsV a b else withB a b
theorem withB_cons (l1 l2:Nat) (k r k2 r2:Wy):withB (.cons l1 k r) (.cons l2 k2 r2)=if betterV k k2≠0 then betterV k k2 else withB r r2:=by
 rw [withB]
 rfl
def WySm:Wy→Prop
 | .nil=>True
 | .cons l k r=>l≤100000∧WySm k∧WySm r
theorem WyRow.sm {ok:Nat→Prop} {w:World}:∀ {f:Wy} {xs:List Value},WyRow ok w f xs→WySm f:=by
 intro f
 induction f with
 | nil=>intro xs _;trivial
 | cons l k r ihk ihr =>
  rintro xs ⟨A,cap,ys,zs,e,h1,h2,h3,h4⟩
  exact ⟨h4,ihk h2,ihr h3⟩
theorem WyAt.sm {ok:Nat→Prop} {w:World} {A:Option Addr} {cap:Nat} {f:Wy} (h:WyAt ok w A cap f):WySm f:=by
 obtain ⟨xs,_,h2⟩:=h
 exact h2.sm
structure WySuf (ok:Nat→Prop) (w:World) (f:Wy) (xs:List Value) (i:Nat) (g:Wy):Prop where
 row:WyRow ok w g (xs.drop (2*i))
 len:g.len+i=f.len
theorem WySuf.start {ok:Nat→Prop} {w:World} {f:Wy} {xs:List Value} (h:WyRow ok w f xs):WySuf ok w f xs 0 f:=⟨by simpa using h,rfl⟩
theorem WySuf.next {ok:Nat→Prop} {w:World} {f k r:Wy} {xs:List Value} {i l:Nat} (h:WySuf ok w f xs i (.cons l k r)):WySuf ok w f xs (i+1) r∧xs[2*i]?=some (.int .i64 l)∧∃ A cap,xs[2*i+1]?=some (.slice A k.len cap)∧WyAt ok w A cap k:=by
 obtain ⟨⟨A,cap,ys,zs,e,h1,h2,h3,_⟩,hl⟩:=h
 have e0:(xs.drop (2*i))[0]?=some (.int .i64 (l:Int)):=by rw [e];rfl
 have e1:(xs.drop (2*i))[1]?=some (.slice A k.len cap):=by rw [e];rfl
 rw [List.getElem?_drop] at e0 e1
 refine ⟨⟨?_,by simp only [Wy.len] at hl;omega⟩,e0,A,cap,e1,ys,h1,h2⟩
 have:xs.drop (2*(i+1))=zs:=by
  rw [show 2*(i+1)=2*i+2 by omega,← List.drop_drop,e]
  rfl
 rw [this]
 exact h3
end Go.Proofs.YtnjagecmhdagkaaGreatDoor
namespace Go.Proofs.YtnjagecmhdagkaaGreatDoor
open Go.RowKit
def AllWy (C:Wy→Prop):Wy→Prop
 | .nil=>True
 | .cons _ k r=>C k∧AllWy C r
theorem allWy_of {C:Wy→Prop} (h:∀ f,AllWy C f→C f):∀ f,C f∧AllWy C f:=by
 intro f
 induction f with
 | nil=>exact ⟨h _ trivial,trivial⟩
 | cons l k r ihk ihr=>exact ⟨h _ ⟨ihk.1,ihr.2⟩,ihk.1,ihr.2⟩
def BetC (a:Wy):Prop:=∀ (b:Wy) (ok:Nat→Prop) (A:Option Addr) (ca:Nat) (B:Option Addr) (cb:Nat) (w:World),WyAt ok w A ca a→WyAt ok w B cb b→WySm a→WySm b →
 Calls Tryz.prog 43 #[.slice A a.len ca,.slice B b.len cb] w fun e w'=>e=.returned (.int .i64 (betterV a b))∧Grows w w'
set_option maxRecDepth 100000 in
set_option maxHeartbeats 4000000 in
theorem better_of (a:Wy) (hK:AllWy BetC a):BetC a:=by
 intro b ok A ca B cb w hA hB hsa hsb
 obtain ⟨xs,hxs,hxr⟩:=hA
 obtain ⟨ys,hys,hyr⟩:=hB
 obtain ⟨R,hR⟩:∃ R,betterV a b=R:=⟨_,rfl⟩
 rw [hR]
 have HR:=Lib.hid hR
 have hal:a.len≤9223372036854775807:=by have:=hxs.le;have:=hxs.cap63;omega
 have hbl:b.len≤9223372036854775807:=by have:=hys.le;have:=hys.cap63;omega
 obtain ⟨M,hM⟩:∃ M,min a.len b.len=M:=⟨_,rfl⟩
 have hmin:min (a.len:Int) (b.len:Int)=(M:Int):=by omega
 have HXS:=Lib.hid hxs
 have HYS:=Lib.hid hys
 have HM:=Lib.hid hM
 have HA0:=Lib.hid (WySuf.start hxr)
 have HB0:=Lib.hid (WySuf.start hyr)
 have HSA:=Lib.hid hsa
 have HSB:=Lib.hid hsb
 have HK:=Lib.hid hK
 have hMl:M≤9223372036854775807:=by omega
 clear hR hxs hys hM hxr hyr hsa hsb hK
 go_enter Tryz.func43,Tryz.ntmps43
 go_wp2_with fail
 go_loopg [14] M (fun q v14 wr=>∃ (i:Nat) (a1 b1:Wy),q+i=M∧v14=.int .i64 i∧WySuf ok w a xs i a1∧WySuf ok w b ys i b1∧WySm a1∧WySm b1∧longsV a b=longsV a1 b1∧Grows w wr)
 case atStart=>exact ⟨0,a,b,by omega,rfl,HA0.out,HB0.out,HSA.out,HSB.out,rfl,Grows.refl _⟩
 case round =>
  obtain ⟨i,a1,b1,hq,rfl,hS1,hS2,hm1,hm2,hL,hg⟩:=hrel
  by_cases hi:i < M
  ·cases a1 with
   | nil=>have h5:=hS1.len;have h6:=HM.out;simp only [Wy.len] at h5;omega
   | cons l k r =>
   cases b1 with
   | nil=>have h5:=hS2.len;have h6:=HM.out;simp only [Wy.len] at h5;omega
   | cons l2 k2 r2 =>
   obtain ⟨hN1,hx0,-⟩:=hS1.next
   obtain ⟨hN2,hy0,-⟩:=hS2.next
   obtain ⟨b1,o1,e1,hin1,hc1⟩:=HXS.out.rd.2 (by have:=HM.out;omega)
   obtain ⟨b2,o2,e2,hin2,hc2⟩:=HYS.out.rd.2 (by have:=HM.out;omega)
   subst e1 e2
   have d1:=cellG (hc1 _ _ hx0) hg
   have d2:=cellG (hc2 _ _ hy0) hg
   rw [Nat.mul_comm 2 i] at d1 d2
   have j1:InHeap b1 wr:=World.block_lt_of_cell? _ _ d1
   have j2:InHeap b2 wr:=World.block_lt_of_cell? _ _ d2
   have hli:(i:Int) < (M:Int):=by omega
   have hia:i < a.len:=by have:=HM.out;omega
   have hib:i < b.len:=by have:=HM.out;omega
   have hiai:(i:Int) < a.len:=by omega
   have hibi:(i:Int) < b.len:=by omega
   obtain ⟨D,hD⟩:∃ D,(l:Int) - l2=D:=⟨_,rfl⟩
   have hl1:=hm1.1
   have hl2:=hm2.1
   have hDs:-100000≤D∧D≤100000:=by omega
   have HN1:=Lib.hid hN1
   have HN2:=Lib.hid hN2
   have HMS:=Lib.hid (And.intro hm1.2.2 hm2.2.2)
   have HL:=Lib.hid hL
   have HG:=Lib.hid hg
   have HQ:=Lib.hid hq
   have HD:=Lib.hid hD
   clear hS1 hS2 hm1 hm2 hL hg hq hN1 hN2 hx0 hy0 hc1 hc2
   by_cases hD0:D=0
   ·have hDb:(D != 0)=false:=by simp [hD0]
    clear hD0
    go_upto_region 4 with fail
    go_quiet (fail)
    go_wp2_with fail
    go_roundg (gk - 1)
    case measure=>have:=HQ.out;omega
    case rel=>exact ⟨i+1,r,r2,by have:=HQ.out;omega,by simp,HN1.out,HN2.out,HMS.out.1,HMS.out.2,by rw [HL.out,longsV,if_neg (by have h9:=HD.out;have h8:D=0:=(by simpa using hDb);omega)],HG.out.trans (by repeat' first | exact Grows.refl _ | refine Grows.drewN ?_ _ | refine Grows.drew ?_)⟩
   ·have hDb:(D != 0)=true:=by simp [hD0]
    have hRD:R=D:=by
     have h1:=HL.out
     rw [longsV,if_pos (by have:=HD.out;omega),HD.out] at h1
     rw [← HR.out]
     unfold betterV
     rw [h1,if_pos hD0]
    subst hRD
    clear HR HL
    go_upto_region 4 with fail
    go_quiet (fail)
    go_wp2_with fail
    go_ret
    exact ⟨rfl,HG.out.trans (by repeat' first | exact Grows.refl _ | refine Grows.drewN ?_ _ | refine Grows.drew ?_)⟩
  ·have hli:¬ (i:Int) < (M:Int):=by omega
   have hlb:decide (i < M)=false:=decide_eq_false hi
   have hL0:longsV a b=0:=by
    rw [hL]
    have h5:=hS1.len
    have h6:=hS2.len
    have h7:=HM.out
    cases a1 with
    | nil=>simp [longsV]
    | cons l k r =>
     cases b1 with
     | nil=>simp [longsV]
     | cons l2 k2 r2=>simp only [Wy.len] at h5 h6;omega
   have hR2:withB a b=R:=by
    rw [← HR.out]
    unfold betterV
    rw [hL0,if_neg (by simp)]
   have HR2:=Lib.hid hR2
   have HG:=Lib.hid hg
   clear hS1 hS2 hm1 hm2 hL hg hq hL0 hR2 HR hi
   go_wp2_with fail
   obtain ⟨w1,hw1⟩:∃ z,z=wr:=⟨_,rfl⟩
   subst hw1
   go_loopg [37] M (fun q v37 wr=>∃ (i:Nat) (a1 b1:Wy),q+i=M∧v37=.int .i64 i∧WySuf ok w a xs i a1∧WySuf ok w b ys i b1∧WySm a1∧WySm b1∧AllWy BetC a1∧withB a1 b1=R∧Grows w wr)
   case atStart=>exact ⟨0,a,b,by omega,rfl,HA0.out,HB0.out,HSA.out,HSB.out,HK.out,HR2.out,HG.out⟩
   case round =>
    obtain ⟨i,a1,b1,hq,rfl,hS1,hS2,hm1,hm2,hk1,hL,hg⟩:=hrel
    by_cases hi:i < M
    ·cases a1 with
     | nil=>have h5:=hS1.len;have h6:=HM.out;simp only [Wy.len] at h5;omega
     | cons l k r =>
     cases b1 with
     | nil=>have h5:=hS2.len;have h6:=HM.out;simp only [Wy.len] at h5;omega
     | cons l2 k2 r2 =>
     obtain ⟨hN1,-,A1,c1,hx0,hA1⟩:=hS1.next
     obtain ⟨hN2,-,A2,c2,hy0,hA2⟩:=hS2.next
     obtain ⟨b1,o1,e1,hin1,hc1⟩:=HXS.out.rd.2 (by have:=HM.out;omega)
     obtain ⟨b2,o2,e2,hin2,hc2⟩:=HYS.out.rd.2 (by have:=HM.out;omega)
     subst e1 e2
     have d1:=cellG (hc1 _ _ hx0) hg
     have d2:=cellG (hc2 _ _ hy0) hg
     rw [Nat.mul_comm 2 i,← Nat.add_assoc] at d1 d2
     have j1:InHeap b1 wr:=World.block_lt_of_cell? _ _ d1
     have j2:InHeap b2 wr:=World.block_lt_of_cell? _ _ d2
     have hcall:∀ mm:More,Calls Tryz.prog 43 #[.slice A1 k.len c1,.slice A2 k2.len c2] (more wr mm) fun e w'=>e=.returned (.int .i64 (betterV k k2))∧Grows (more wr mm) w':=fun mm=>hk1.1 k2 ok A1 c1 A2 c2 (more wr mm) (hA1.grows (hg.trans ⟨mm,rfl⟩)) (hA2.grows (hg.trans ⟨mm,rfl⟩)) hm1.2.1 hm2.2.1
     have hli:(i:Int) < (M:Int):=by omega
     have hia:i < a.len:=by have:=HM.out;omega
     have hib:i < b.len:=by have:=HM.out;omega
     have hiai:(i:Int) < a.len:=by omega
     have hibi:(i:Int) < b.len:=by omega
     have HN1:=Lib.hid hN1
     have HN2:=Lib.hid hN2
     have HMS:=Lib.hid (And.intro hm1.2.2 (And.intro hm2.2.2 hk1.2))
     rw [withB_cons] at hL
     obtain ⟨D,hD⟩:∃ D,betterV k k2=D:=⟨_,rfl⟩
     rw [hD] at hL hcall
     have HL:=Lib.hid hL
     have HG2:=Lib.hid hg
     have HQ:=Lib.hid hq
     clear hS1 hS2 hm1 hm2 hk1 hL hg hq hN1 hN2 hx0 hy0 hc1 hc2 hA1 hA2 hD
     go_upto_region 11 with fail
     refine region_grows (by kernel_rfl) (by kernel_rfl) ?_
     repeat (go_big_quiet_step ((go_at_call 43;exact calls_grows (hcall _))))
     refine wpQuiet_nil ?_
     intro _ hw'
     obtain ⟨m1,rfl⟩:=hw'
     have HG3:=Lib.hid (HG2.out.trans ⟨m1,rfl⟩:Grows w (more wr m1))
     clear hcall d1 d2 j1 j2
     generalize more wr m1=w3 at *
     by_cases hD0:D=0
     ·have hDb:(D != 0)=false:=by simp [hD0]
      have hL2:withB r r2=R:=by have:=HL.out;rw [if_neg (by simp [hD0])] at this;exact this
      have HL2:=Lib.hid hL2
      clear hD0 HL hL2
      go_wp2_with fail
      go_roundg (gk - 1)
      case measure=>have:=HQ.out;omega
      case rel=>exact ⟨i+1,r,r2,by have:=HQ.out;omega,by simp,HN1.out,HN2.out,HMS.out.1,HMS.out.2.1,HMS.out.2.2,HL2.out,HG3.out⟩
     ·have hDb:(D != 0)=true:=by simp [hD0]
      have hRD:R=D:=by have:=HL.out;rw [if_pos hD0] at this;exact this.symm
      subst hRD
      clear HL HR2
      go_wp2_with fail
      go_ret
      exact ⟨rfl,HG3.out⟩
    ·have hli:¬ (i:Int) < (M:Int):=by omega
     have hlb:decide (i < M)=false:=decide_eq_false hi
     have hR0:R=0:=by
      rw [← hL]
      have h5:=hS1.len
      have h6:=hS2.len
      have h7:=HM.out
      cases a1 with
      | nil=>simp [withB]
      | cons l k r =>
       cases b1 with
       | nil=>simp [withB]
       | cons l2 k2 r2=>simp only [Wy.len] at h5 h6;omega
     subst hR0
     have HG4:=Lib.hid hg
     clear hS1 hS2 hm1 hm2 hk1 hL hg hq hi HR2
     go_wp2_with fail
     go_ret
     exact ⟨rfl,HG4.out⟩
theorem better_any (a:Wy):BetC a:=(allWy_of better_of a).1
end Go.Proofs.YtnjagecmhdagkaaGreatDoor
