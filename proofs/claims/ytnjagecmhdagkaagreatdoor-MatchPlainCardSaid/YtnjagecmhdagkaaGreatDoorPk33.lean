/-
 Several texts of the proof: MatSd, MatSe.
-/
import Derived.Test.YtnjagecmhdagkaaGreatDoorPk32
set_option linter.unusedSimpArgs false
set_option linter.unusedVariables false
set_option maxRecDepth 3000
/-
  Matches by all ways: a turn more.
-/
namespace Go.Proofs.YtnjagecmhdagkaaGreatDoor
open Go.RowKit
section
variable {s:List UInt8} {fuel:Int} {sb rb ob lo:Nat} {σ:Sg} {w w':World}
theorem sturn_drew {x:NdV} {k:Fr} {F a d:Nat} (h:STurnC s fuel sb rb ob lo x k F a (d+1)) (id:Nat) (KA:Option Addr) (kn kc:Nat) (A:Option Addr) (cap:Nat) (g:Spn) (ws:Wy) (WA:Option Addr) (wc:Nat) (v:Value) (K:Nat→Spn→Wy→Sg→Sg) (σ:Sg) {w w0:World} (h1:AllNd k) (hx:NdOk x) (h2:NfAt (fun b=>b < lo) w A cap k (id+1)) (h3:a≤s.length) (h4:SpIn s.length g) (h5:WyAt (fun b=>¬ MutB sb rb ob b) w WA wc ws) (h6:ws.len≤d+1) (hF:d+1+F≤80000) (hk:k.size≤90000) (h7:ContC s fuel sb rb ob w v K a) (h8:SrAt s fuel sb rb ob σ w) (ho:overB fuel σ=false) (hg:Grows w w0) :
  Calls Tryz.prog 67 #[.pointer (some ⟨sb,0,none⟩),.agg (nmC x (.slice KA kn kc) id (.slice A k.len cap)),.int .i64 ((d:Int)+1),.int .i64 a,spV g,.slice WA ws.len wc,v] w0 fun e w'=>e=.returned (.tuple #[])∧SrAt s fuel sb rb ob (runE K fuel (evT x (fun a g=>evR s k a g .nil) (unsetV k) F (d+1) a g ws) σ) w'∧Chg (MutB sb rb ob) w w':=by
 have:=(h id KA kn kc A cap g ws WA wc v K σ w0 h1 hx (h2.chg (Chg.of_grows (p:=fun _=>False) hg) fun _ _ _ h=>h) h3 h4 (h5.grows hg) h6 hF hk (h7.mono (Chg.of_grows hg) (Nat.le_refl _)) (h8.grows hg) ho).mono (R':=fun e w'=>e=.returned (.tuple #[])∧SrAt s fuel sb rb ob (runE K fuel (evT x (fun a g=>evR s k a g .nil) (unsetV k) F (d+1) a g ws) σ) w'∧Chg (MutB sb rb ob) w w') fun e w' ⟨k1,k2,k3⟩=>⟨k1,k2,(Chg.of_grows hg).trans k3⟩
 rwa [show ((d+1:Nat):Int)=(d:Int)+1 from rfl] at this
attribute [local go_sem ↓] zeroNm ldNm_eq stNm_eq ldSp_eq stSp_eq
attribute [local go_sem] loadNm loadNm_if storeNm storeNm_if nm_one_nd nm_size_nd over_nm span_nm loadSp loadSp_if storeSp storeSp_if spC_one
set_option maxRecDepth 100000 in
set_option maxHeartbeats 8000000 in
theorem sturns1_any {x:NdV} {k:Fr} (F d a0:Nat) (hturn:∀ e,a0≤e→e≤s.length→(a0 < e∨d < x.mn)→STurnC s fuel sb rb ob lo x k F e (d+1)) (id:Nat) (KA:Option Addr) (kn kc:Nat) (XA:Option Addr) (xcap:Nat) (ws0:Wy) (WA:Option Addr) (wc:Nat) (v:Value) (K:Nat→Spn→Wy→Sg→Sg) (W1:World) {bM bD bW bA bO bX:Nat}
  (hM:blk W1 bM=#[.pointer (some ⟨sb,0,none⟩)]) (hX:blk W1 bX=nmC x (.slice KA kn kc) id (.slice XA k.len xcap)) (hD1:blk W1 bD=#[.int .i64 d]) (hW:blk W1 bW=#[.slice WA ws0.len wc]) (hA:blk W1 bA=#[.int .i64 a0]) (hO:blk W1 bO=#[v])
  (hne:(¬ MutB sb rb ob bM∧¬ MutB sb rb ob bX∧¬ MutB sb rb ob bW)∧¬ MutB sb rb ob bA∧¬ MutB sb rb ob bO∧¬ MutB sb rb ob bD) (hlo:lo≤sb∧lo≤rb∧lo≤ob) (hmx:sb < W1.heap.size∧rb < W1.heap.size∧ob < W1.heap.size)
  (hnd:AllNd k) (hxo:NdOk x) (hnf:NfAt (fun b=>b < lo) W1 XA xcap k (id+1)) (hws:WyAt (fun b=>¬ MutB sb rb ob b) W1 WA wc ws0) (hlen:ws0.len≤d) (hF:d+1+F≤80000) (hk:k.size≤90000) (hK:ContC s fuel sb rb ob W1 v K a0) (hs:s.length≤60000) :
  ContC s fuel sb rb ob W1 (.func (.func 93) #[] #[.pointer (some ⟨bA,0,none⟩),.pointer (some ⟨bD,0,none⟩),.pointer (some ⟨bX,0,none⟩),.pointer (some ⟨bM,0,none⟩),.pointer (some ⟨bW,0,none⟩),.pointer (some ⟨bO,0,none⟩)]) (fun e g i σ=>if a0 < e∨d < x.mn then runE K fuel (evT x (fun a g=>evR s k a g .nil) (unsetV k) F (d+1) e g (ws0.snoc (e - a0) i)) σ else σ) a0:=by
 refine ⟨_,_,rfl,enters_sturns1,fun a g ws A c σ w hc hla han hg hwy hwl hsr hov=>?_⟩
 have hsz:=hc.size
 have d1:=cellC (Blk.cell hM (by simp) 0) hc hne.1.1
 have d3:=cellC (Blk.cell hW (by simp) 0) hc hne.1.2.2
 have d4:=cellC (Blk.cell hA (by simp) 0) hc hne.2.1
 have d5:=cellC (Blk.cell hO (by simp) 0) hc hne.2.2.1
 have d6:=cellC (Blk.cell hD1 (by simp) 0) hc hne.2.2.2
 have bx:=(chg_blk hc (Blk.inHeap hX (by rw [nmC_size];decide)) hne.1.2.1).trans hX
 have hnfw:NfAt (fun b=>b < lo) w XA xcap k (id+1):=hnf.chg hc fun b _ hb e=>by unfold MutB at e;omega
 have hww:WyAt (fun b=>¬ MutB sb rb ob b) w WA wc ws0:=hws.chg hc fun _ _ h=>h
 have hKw:=hK.mono hc hla
 have hfr:∀ b,w.heap.size≤b→¬ MutB sb rb ob b:=fun b hb e=>by unfold MutB at e;omega
 have hsub:(a:Int) - a0=((a - a0:Nat):Int):=by omega
 obtain ⟨D,hD⟩:∃ D,a - a0=D:=⟨_,rfl⟩
 rw [hD] at hsub
 obtain ⟨f,caps,hv,_,_⟩:=hK
 dsimp only
 rw [hD]
 subst hv
 have NE:=Lib.hid hne
 have hgA:Grows w (w.alloc (Obj.cells (spC g) 35)):=(Grows.refl _).alloc _
 have hbG:blk (w.alloc (Obj.cells (spC g) 35)) w.heap.size=spC g:=blk_alloc_at _ _ _ _ rfl
 have hnG:¬ MutB sb rb ob w.heap.size:=hfr _ (Nat.le_refl _)
 have hspz:(spC g).size=20:=by rw [spC_size];exact hg.len
 have HG:=Lib.hid hg
 have HNF:=Lib.hid hnfw
 have HWW:=Lib.hid hww
 have HWY:=Lib.hid hwy
 have HKW:=Lib.hid hKw
 have HFR:=Lib.hid hfr
 have HSR:=Lib.hid hsr
 have HND:=Lib.hid hnd
 have HXO:=Lib.hid hxo
 have HLEN:=Lib.hid hlen
 have HOV:=Lib.hid hov
 have HTU:=Lib.hid hturn
 have hD6:D≤60000:=by omega
 have ha6:a≤60000:=by omega
 have ha06:a0≤60000:=by omega
 have HF:=Lib.hid hF
 have HK9:=Lib.hid hk
 have hd9:d≤80000:=by omega
 have d7:w.cell? ⟨bX,259,none⟩=some (.int .i64 x.mn):=((Blk.cell bx (by rw [nmC_size];decide) 259).trans (nmA_lt (ndA_size _ _ _ _ _ _ _) (by decide))).trans (ndA_259 _ _ _ _ _ _ _)
 clear hM hX hD1 hW hA hO hne hnd hxo hnf hws hlen hg hnfw hww hwy hKw hfr hsr hD hwl hmx hlo hov hturn hF hk hsz hc
 by_cases hgo:a0 < a∨d < x.mn
 ·rw [if_pos hgo]
  have htu:=HTU.out a hla han hgo
  have HGO:=Lib.hid hgo
  go_enter Tryz.func93,Tryz.ntmps93
  go_upto_region 1 with fail
  obtain ⟨bG,hbGe⟩:∃ z,z=w.heap.size:=⟨_,rfl⟩
  rw [← hbGe] at hbG hnG ⊢
  generalize w.alloc (Obj.cells (spC g) 35)=w1 at *
  have y1:=cellG d1 hgA
  have y3:=cellG d3 hgA
  have y4:=cellG d4 hgA
  have y5:=cellG d5 hgA
  have y6:=cellG d6 hgA
  have y7:=cellG d7 hgA
  have yx:=blkG bx (by rw [nmC_size];decide) hgA
  have hwD:IntKind.i64.wrap (D:Int)=(D:Int):=wrap_small (by omega) (by omega)
  have hwd:IntKind.i64.wrap ((d:Int)+1)=(d:Int)+1:=wrap_small (by omega) (by omega)
  have HNF1:Hid (NfAt (fun b=>b < lo) w1 XA xcap k (id+1)):=Lib.hid (HNF.out.chg (Chg.of_grows (p:=fun _=>False) hgA) fun _ _ _ h=>h)
  have HWW1:=Lib.hid (HWW.out.grows hgA)
  have HWY1:=Lib.hid (HWY.out.grows hgA)
  have HKW1:=Lib.hid (HKW.out.mono (Chg.of_grows hgA) (Nat.le_refl _))
  have hszA:=hgA.below.size
  have HFR1:Hid (∀ b,w1.heap.size≤b→¬ MutB sb rb ob b):=Lib.hid fun b hb=>HFR.out b (by omega)
  have HSR1:=Lib.hid (HSR.out.grows hgA)
  have HGA:=Lib.hid hgA
  have iG:InHeap bG w1:=Blk.inHeap hbG (by omega)
  have iX:InHeap bX w1:=Blk.inHeap yx (by rw [nmC_size];decide)
  have HSA:Hid (∀ w',Chg (MutB sb rb ob) w1 w'→(w'.cell? ⟨bM,0,none⟩=some (.pointer (some ⟨sb,0,none⟩))∧blk w' bX=nmC x (.slice KA kn kc) id (.slice XA k.len xcap)∧w'.cell? ⟨bD,0,none⟩=some (.int .i64 d)∧w'.cell? ⟨bW,0,none⟩=some (.slice WA ws0.len wc)∧w'.cell? ⟨bA,0,none⟩=some (.int .i64 a0)∧w'.cell? ⟨bO,0,none⟩=some (.func (.func f) #[] caps)∧w'.rangeAt bG 0 (spC g).toList)):=Lib.hid fun w' hg=>⟨cellC y1 hg NE.out.1.1,(chg_blk hg iX NE.out.1.2.1).trans yx,cellC y6 hg NE.out.2.2.2,cellC y3 hg NE.out.1.2.2,cellC y4 hg NE.out.2.1,cellC y5 hg NE.out.2.2.1,fun j v hj=>(by
   rw [Nat.zero_add,Blk.cell ((chg_blk hg iG hnG).trans hbG) (by omega),← Array.getElem?_toList];exact hj)⟩
  have hu23:=Tryz.underlying35
  have hi23:(Tryz.prog.info? 35).map (·.size)=some (spC g).toList.length:=by rw [Array.length_toList,hspz];kernel_rfl
  have hu76:=Tryz.underlying102
  have hi76:(Tryz.prog.info? 102).map (·.size)=some (nmC x (.slice KA kn kc) id (.slice XA k.len xcap)).toList.length:=by rw [Array.length_toList,nmC_size];kernel_rfl
  clear hbGe d1 d3 d4 d5 d6 d7 bx hgA HNF HWW HWY HKW HFR HSR HTU
  go_cut [21] (fun v21 wx=>v21=.bool true∧wx=w1)
  case first =>
   by_cases h1:a0 < a
   ·have h1i:(a0:Int) < (a:Int):=by omega
    go_wp2_with fail
    go_meet
    exact ⟨rfl,rfl⟩
   ·have h1b:decide (a0 < a)=false:=decide_eq_false h1
    have h2:d < x.mn:=hgo.resolve_left h1
    clear hgo
    go_wp2_with fail
    go_meet
    exact ⟨rfl,rfl⟩
  case rest =>
   obtain ⟨rfl,hw⟩:=hcut
   have hw:=hw.symm
   subst hw
   clear hgo y1 y3 y4 y5 y6 y7 yx hbG
   go_upto_region 2 with fail
   go_region_held3 (fun w'=>w'.cell? ⟨bM,0,none⟩=some (.pointer (some ⟨sb,0,none⟩))∧blk w' bX=nmC x (.slice KA kn kc) id (.slice XA k.len xcap)∧w'.cell? ⟨bD,0,none⟩=some (.int .i64 d)∧w'.cell? ⟨bW,0,none⟩=some (.slice WA ws0.len wc)∧w'.cell? ⟨bA,0,none⟩=some (.int .i64 a0)∧w'.cell? ⟨bO,0,none⟩=some (.func (.func f) #[] caps)∧w'.rangeAt bG 0 (spC g).toList)
    (exact HSA.out _ (by repeat' first | exact Chg.refl _ _ | exact (Chg.of_grows G2.out).trans C3.out | exact Chg.of_grows G2.out | refine chgDrewN ?_ _ | refine chgDrew ?_))
    (first
     | (go_at_call 66;(refine Calls.mono (and_drew WA wc ws0 D A c ws HWW1.out HWY1.out HFR1.out (by have:=HLEN.out;omega) (by omega) ?_) ?_);(repeat' first | exact Grows.refl _ | exact G2.out | refine Grows.drewN ?_ _ | refine Grows.drew ?_);rintro e9 w2 ⟨A2,c2,rfl,hW2,hG2⟩;have W2:=Lib.hid hW2;have G2:=Lib.hid hG2;clear hW2 hG2)
     | (go_at_call 67;(refine Calls.mono (sturn_drew htu id KA kn kc XA xcap g (ws0.snoc D ws) A2 c2 (.func (.func f) #[] caps) K σ HND.out HXO.out (HNF1.out.chg (Chg.of_grows (p:=fun _=>False) G2.out) (fun _ _ _ h=>h)) han HG.out W2.out (by have:=HLEN.out;rw [Wy.len_snoc];omega) HF.out HK9.out (HKW1.out.mono (Chg.of_grows G2.out) (Nat.le_refl _)) (HSR1.out.grows G2.out) HOV.out ?_) ?_);(repeat' first | exact Grows.refl _ | exact G2.out | refine Grows.drewN ?_ _ | refine Grows.drew ?_);rintro e9 w3 ⟨rfl,hS3,hC3⟩;have S3:=Lib.hid hS3;have C3:=Lib.hid hC3;clear hS3 hC3))
   go_wp2_with fail
   exact ⟨rfl,.tuple #[],results_none rfl _ _ _,rfl,S3.out.grows (by repeat' first | exact Grows.refl _ | refine Grows.drewN ?_ _ | refine Grows.drew ?_),(Chg.of_grows HGA.out).trans ((Chg.of_grows G2.out).trans (C3.out.trans (Chg.of_grows (by repeat' first | exact Grows.refl _ | refine Grows.drewN ?_ _ | refine Grows.drew ?_))))⟩
 ·rw [if_neg hgo]
  have h1b:decide (a0 < a)=false:=decide_eq_false fun h=>hgo (.inl h)
  have h2b:decide (d < x.mn)=false:=decide_eq_false fun h=>hgo (.inr h)
  have q4:=cellG d4 hgA
  have q6:=cellG d6 hgA
  have q7:=cellG d7 hgA
  clear hgo HTU
  go_enter Tryz.func93,Tryz.ntmps93
  go_wp2_with fail
  exact ⟨rfl,.tuple #[],results_none rfl _ _ _,rfl,HSR.out.grows hgA,Chg.of_grows hgA⟩
end
end Go.Proofs.YtnjagecmhdagkaaGreatDoor
namespace Go.Proofs.YtnjagecmhdagkaaGreatDoor
open Go.RowKit
section
variable {s:List UInt8} {fuel:Int} {sb rb ob lo:Nat} {σ:Sg} {w w':World}
theorem run_if {K:Nat→Spn→Wy→Sg→Sg} {c:Prop} [Decidable c] (l:List Ev) (σ:Sg):runE K fuel (if c then l else []) σ=if c then runE K fuel l σ else σ:=by
 split
 ·rfl
 ·rfl
structure SvAt (sb:Nat) (x:NdV) (KA:Option Addr) (kn kc id:Nat) (A:Option Addr) (kl cap d a:Nat) (g:Spn) (WA:Option Addr) (wl wc:Nat) (v:Value) (bM bX bD bA bG bW bO:Nat) (w:World):Prop where
 m:blk w bM=#[.pointer (some ⟨sb,0,none⟩)]
 x:blk w bX=nmC x (.slice KA kn kc) id (.slice A kl cap)
 d:blk w bD=#[.int .i64 d]
 a:blk w bA=#[.int .i64 a]
 g:SpAt w bG g
 wy:blk w bW=#[.slice WA wl wc]
 o:blk w bO=#[v]
section
variable {x:NdV} {KA:Option Addr} {kn kc id:Nat} {A:Option Addr} {kl cap d a:Nat} {g:Spn} {WA:Option Addr} {wl wc:Nat} {v:Value} {bM bX bD bA bG bW bO:Nat} {p:Nat→Prop}
theorem SvAt.chg (h:SvAt sb x KA kn kc id A kl cap d a g WA wl wc v bM bX bD bA bG bW bO w) (hc:Chg p w w') (hp:¬ p bM∧¬ p bX∧¬ p bD∧¬ p bA∧¬ p bG∧¬ p bW∧¬ p bO):SvAt sb x KA kn kc id A kl cap d a g WA wl wc v bM bX bD bA bG bW bO w' :=
 ⟨(chg_blk hc (Blk.inHeap h.m (by simp)) hp.1).trans h.m,(chg_blk hc (Blk.inHeap h.x (by rw [nmC_size];decide)) hp.2.1).trans h.x,(chg_blk hc (Blk.inHeap h.d (by simp)) hp.2.2.1).trans h.d,(chg_blk hc (Blk.inHeap h.a (by simp)) hp.2.2.2.1).trans h.a,h.g.chg hc hp.2.2.2.2.1,(chg_blk hc (Blk.inHeap h.wy (by simp)) hp.2.2.2.2.2.1).trans h.wy,(chg_blk hc (Blk.inHeap h.o (by simp)) hp.2.2.2.2.2.2).trans h.o⟩
theorem SvAt.mn (h:SvAt sb x KA kn kc id A kl cap d a g WA wl wc v bM bX bD bA bG bW bO w):w.cell? ⟨bX,259,none⟩=some (.int .i64 x.mn):=((Blk.cell h.x (by rw [nmC_size];decide) 259).trans (nmA_lt (ndA_size _ _ _ _ _ _ _) (by decide))).trans (ndA_259 _ _ _ _ _ _ _)
theorem SvAt.mx (h:SvAt sb x KA kn kc id A kl cap d a g WA wl wc v bM bX bD bA bG bW bO w):w.cell? ⟨bX,260,none⟩=some (.int .i64 x.mx):=((Blk.cell h.x (by rw [nmC_size];decide) 260).trans (nmA_lt (ndA_size _ _ _ _ _ _ _) (by decide))).trans (ndA_260 _ _ _ _ _ _ _)
theorem SvAt.kids (h:SvAt sb x KA kn kc id A kl cap d a g WA wl wc v bM bX bD bA bG bW bO w):w.cell? ⟨bX,263,none⟩=some (.slice A kl cap):=(Blk.cell h.x (by rw [nmC_size];decide) 263).trans (nmA_263 (ndA_size _ _ _ _ _ _ _))
end
attribute [local go_sem ↓] zeroNm ldNm_eq stNm_eq ldSp_eq stSp_eq zeroSp
attribute [local go_sem] loadNm loadNm_if storeNm storeNm_if nm_one_nd nm_size_nd over_nm span_nm loadSp loadSp_if storeSp storeSp_if spC_one
set_option maxRecDepth 100000 in
set_option maxHeartbeats 8000000 in
theorem sturns_any (hs:s.length≤60000) (hlo:lo≤sb∧lo≤rb∧lo≤ob) {x:NdV} {k:Fr} (hrow:SRowC s fuel sb rb ob lo k):∀ (F a d:Nat),fuelK s.length x a d≤F→STurnC s fuel sb rb ob lo x k F a d:=by
 intro F
 induction F with
 | zero=>intro a d h;unfold fuelK at h;omega
 | succ F ih =>
 intro a d hF id KA kn kc A cap g ws WA wk v K σ w hnd hxo hnf ha hg hws hwl hdF hks hK hsr hov
 have hmn:=hxo.mn
 have hmx:=hxo.mx
 have hlts:=hsr.lts
 have hgl:=hg.len
 have hspz:(spC g).size=20:=by rw [spC_size];exact hgl
 obtain ⟨f,caps,hv,hent,hcont⟩:=hK
 have hK:ContC s fuel sb rb ob w v K a:=⟨f,caps,hv,hent,hcont⟩
 subst hv
 have HND:=Lib.hid hnd
 have HXO:=Lib.hid hxo
 have HNF:=Lib.hid hnf
 have HG:=Lib.hid hg
 have HWS:=Lib.hid hws
 have HK:=Lib.hid hK
 have HSR:=Lib.hid hsr
 have HOV:=Lib.hid hov
 have HCO:=Lib.hid hcont
 have HENT:=Lib.hid hent
 have HIH:=Lib.hid ih
 have HFK:=Lib.hid hF
 have HLO:=Lib.hid hlo
 have HWL:=Lib.hid hwl
 have hdF9:d+1+F≤80000:=by omega
 obtain ⟨S,hS⟩:∃ S,runE K fuel (evT x (fun a g=>evR s k a g .nil) (unsetV k) (F+1) d a g ws) σ=S:=⟨_,rfl⟩
 rw [hS]
 have HS:=Lib.hid hS
 clear hnd hxo hnf hg hws hK hsr hov hcont hent ih hF hlo hS hwl
 go_enter Tryz.func67,Tryz.ntmps67
 go_upto_region 1 with fail
 have hL:=(((((((LaidAt.start w).alloc #[.pointer (some ⟨sb,0,none⟩)] 104).alloc (nmC x (.slice KA kn kc) id (.slice A k.len cap)) 102).alloc #[.int .i64 d] 3).alloc #[.int .i64 a] 3).alloc (spC g) 35).alloc #[.slice WA ws.len wk] 105).alloc #[.func (.func f) #[] caps] 138
 generalize (((((((w).alloc (Obj.cells #[.pointer (some ⟨sb,0,none⟩)] 104)).alloc (Obj.cells (nmC x (.slice KA kn kc) id (.slice A k.len cap)) 102)).alloc (Obj.cells #[.int .i64 d] 3)).alloc (Obj.cells #[.int .i64 a] 3)).alloc (Obj.cells (spC g) 35)).alloc (Obj.cells #[.slice WA ws.len wk] 105)).alloc (Obj.cells #[.func (.func f) #[] caps] 138)=w1 at *
 obtain ⟨bO,hbO⟩:∃ z,z=w.heap.size+1+1+1+1+1+1:=⟨_,rfl⟩
 obtain ⟨bW,hbW⟩:∃ z,z=w.heap.size+1+1+1+1+1:=⟨_,rfl⟩
 obtain ⟨bG,hbG⟩:∃ z,z=w.heap.size+1+1+1+1:=⟨_,rfl⟩
 obtain ⟨bA,hbA⟩:∃ z,z=w.heap.size+1+1+1:=⟨_,rfl⟩
 obtain ⟨bD,hbD⟩:∃ z,z=w.heap.size+1+1:=⟨_,rfl⟩
 obtain ⟨bX,hbX⟩:∃ z,z=w.heap.size+1:=⟨_,rfl⟩
 obtain ⟨bM,hbM⟩:∃ z,z=w.heap.size:=⟨_,rfl⟩
 rw [← hbO,← hbW,← hbG,← hbA,← hbD,← hbX,← hbM]
 have hV1:SvAt sb x KA kn kc id A k.len cap d a g WA ws.len wk (.func (.func f) #[] caps) bM bX bD bA bG bW bO w1:=⟨by rw [hbM];exact hL.blk 0 _ rfl,by rw [hbX];exact hL.blk 1 _ rfl,by rw [hbD];exact hL.blk 2 _ rfl,by rw [hbA];exact hL.blk 3 _ rfl,⟨by rw [hbG];exact hL.blk 4 _ rfl,hgl⟩,by rw [hbW];exact hL.blk 5 _ rfl,by rw [hbO];exact hL.blk 6 _ rfl⟩
 have hg1:=hL.grows
 have hz1:w1.heap.size=w.heap.size+7:=hL.size
 have NE:Hid (¬ MutB sb rb ob bM∧¬ MutB sb rb ob bX∧¬ MutB sb rb ob bD∧¬ MutB sb rb ob bA∧¬ MutB sb rb ob bG∧¬ MutB sb rb ob bW∧¬ MutB sb rb ob bO):=Lib.hid (by unfold MutB;omega)
 have hmxw:sb < w1.heap.size∧rb < w1.heap.size∧ob < w1.heap.size:=by omega
 have V1:=Lib.hid hV1
 have G1:=Lib.hid hg1
 have SR1:=Lib.hid (HSR.out.grows hg1)
 have WS1:=Lib.hid (HWS.out.grows hg1)
 have hcontw:=HCO.out
 clear hL hbM hbX hbD hbA hbG hbW hbO
 have e1:=hV1.mn
 have e2:w1.cell? ⟨bD,0,none⟩=some (.int .i64 d):=Blk.cell hV1.d (by simp) 0
 clear hV1 hg1
 go_upto_if 19 with fail
 go_cut [] (fun wx=>SrAt s fuel sb rb ob (if x.mn≤d then K a g ws σ else σ) wx∧Chg (MutB sb rb ob) w1 wx)
 case first =>
  by_cases hmd:x.mn≤d
  ·have hcall:=hcontw a g ws WA wk σ w1 (Chg.of_grows G1.out) (Nat.le_refl _) ha HG.out WS1.out (by have:=HWL.out;omega) SR1.out HOV.out
   have hen:=HENT.out (#[.int .i64 a,spV g,.slice WA ws.len wk]++caps) w1
   have q1:w1.cell? ⟨bO,0,none⟩=some (.func (.func f) #[] caps):=Blk.cell V1.out.o (by simp) 0
   have q2:w1.cell? ⟨bA,0,none⟩=some (.int .i64 a):=Blk.cell V1.out.a (by simp) 0
   have q3:w1.cell? ⟨bW,0,none⟩=some (.slice WA ws.len wk):=Blk.cell V1.out.wy (by simp) 0
   have q4:=loadSp_all w1 bG (spC g) V1.out.g.eq hspz
   go_wp2_with fail
   (with_reducible refine hcall.mono ?_)
   rintro e9 w2 ⟨rfl,hS2,hC2⟩
   have S2:=Lib.hid hS2
   have C2:=Lib.hid hC2
   clear hcall hS2 hC2 hen
   go_wp2_with fail
   go_meet
   exact ⟨by rw [if_pos hmd];exact S2.out,C2.out⟩
  ·have hmb:decide (x.mn≤d)=false:=decide_eq_false hmd
   go_wp2_with fail
   go_meet
   exact ⟨by rw [if_neg hmd];exact SR1.out,Chg.refl _ _⟩
 case rest =>
  obtain ⟨hS2,hC2⟩:=hcut
  obtain ⟨σ1,hσ1⟩:∃ z,(if x.mn≤d then K a g ws σ else σ)=z:=⟨_,rfl⟩
  rw [hσ1] at hS2
  have SR2:=Lib.hid hS2
  have C2:=Lib.hid hC2
  have HSI:=Lib.hid hσ1
  have V2:=Lib.hid (V1.out.chg hC2 NE.out)
  clear hS2 hC2 hσ1 e1 e2
  have hrun:∀ l,runE K fuel ((if x.mn≤d then [Ev.out a g ws] else [])++l) σ=runE K fuel l σ1:=fun l=>by
   rw [run_append]
   congr 1
   rw [← HSI.out]
   split
   ·exact run_one a g ws HOV.out
   ·rfl
  have HRUN:=Lib.hid hrun
  obtain ⟨bb,hbb⟩:=SR2.out.sbblk
  have hover:=over_any wc sb s fuel σ1.spent bb _ hbb
  have e1:=V2.out.mx
  have e2:wc.cell? ⟨bD,0,none⟩=some (.int .i64 d):=Blk.cell V2.out.d (by simp) 0
  have e3:wc.cell? ⟨bM,0,none⟩=some (.pointer (some ⟨sb,0,none⟩)):=Blk.cell V2.out.m (by simp) 0
  obtain ⟨O,hO⟩:∃ O,overB fuel σ1=O:=⟨_,rfl⟩
  have hO2:decide (fuel < (σ1.spent:Int))=O:=hO
  rw [hO2] at hover
  clear hrun hbb
  go_upto_region 3 with fail
  obtain ⟨w2,hw2⟩:∃ z,z=wc:=⟨_,rfl⟩
  subst hw2
  go_cut [39] (fun v39 wx=>v39=.bool ((decide (0≤x.mx) && decide (x.mx≤d)) || O)∧Grows w2 wx)
  case first =>
   by_cases h1:0≤x.mx
   ·by_cases h2:x.mx≤(d:Int)
    ·have hB:((decide (0≤x.mx) && decide (x.mx≤(d:Int))) || O)=true:=by simp [h1,h2]
     have HB9:=Lib.hid hB
     clear hB
     go_wp2_with fail
     go_meet
     exact ⟨by rw [HB9.out],Grows.refl _⟩
    ·have h2b:decide (x.mx≤(d:Int))=false:=decide_eq_false h2
     have hB:((decide (0≤x.mx) && decide (x.mx≤(d:Int))) || O)=O:=by simp [h2]
     have HB9:=Lib.hid hB
     clear hB h2
     go_wp2_with fail
     (with_reducible refine hover.mono ?_)
     rintro e9 w3 ⟨rfl,hg3⟩
     go_wp2_with fail
     go_meet
     exact ⟨by rw [HB9.out],hg3⟩
   ·have h1b:decide (0≤x.mx)=false:=decide_eq_false h1
    have hB:((decide (0≤x.mx) && decide (x.mx≤(d:Int))) || O)=O:=by simp [h1]
    have HB9:=Lib.hid hB
    clear hB h1
    go_wp2_with fail
    (with_reducible refine hover.mono ?_)
    rintro e9 w3 ⟨rfl,hg3⟩
    go_wp2_with fail
    go_meet
    exact ⟨by rw [HB9.out],hg3⟩
  case rest =>
   obtain ⟨rfl,hg3⟩:=hcut
   have SR3:=Lib.hid (SR2.out.grows hg3)
   have V3:=Lib.hid (V2.out.chg (Chg.of_grows (p:=fun _=>False) hg3) ⟨fun h=>h,fun h=>h,fun h=>h,fun h=>h,fun h=>h,fun h=>h,fun h=>h⟩)
   have C3:=Lib.hid ((C2.out.trans (Chg.of_grows hg3)))
   clear hover e1 e2 e3 hg3
   by_cases hB:((decide (0≤x.mx) && decide (x.mx≤(d:Int))) || O)=true
   ·have hSe:S=σ1:=by
     rw [← HS.out]
     unfold evT
     rw [HRUN.out]
     split
     ·rfl
     ·rename_i hc
      refine run_over _ ?_
      rw [hO]
      simp only [Bool.or_eq_true,Bool.and_eq_true,decide_eq_true_eq] at hB
      exact hB.resolve_left hc
    subst hSe
    rw [hB]
    clear hB HS
    go_wp2_with fail
    exact ⟨rfl,.tuple #[],results_none rfl _ _ _,rfl,SR3.out,(Chg.of_grows G1.out).trans C3.out⟩
   ·have hBf:((decide (0≤x.mx) && decide (x.mx≤(d:Int))) || O)=false:=by simpa using hB
    have hcn:¬ (0≤x.mx∧x.mx≤(d:Int)):=by
     intro h
     simp [h.1,h.2] at hBf
    rw [hBf]
    clear hB hBf
    have hrunS:runE (fun e g i σ=>if a < e∨d < x.mn then runE K fuel (evT x (fun a g=>evR s k a g .nil) (unsetV k) F (d+1) e g (ws.snoc (e - a) i)) σ else σ) fuel (evR s k a (unsetV k g) .nil) σ1=S:=by
     rw [← HS.out]
     conv=>rhs;unfold evT
     rw [HRUN.out,if_neg hcn,run_bind]
     congr 1
     funext e g2 tw σ
     rw [run_if]
    have HRS:=Lib.hid hrunS
    have hstep:∀ e,a≤e→e≤s.length→(a < e∨d < x.mn)→STurnC s fuel sb rb ob lo x k F e (d+1):=fun e h1 h2 h3=>HIH.out e (d+1) (by
     have h4:=HFK.out
     unfold fuelK at h4 ⊢
     by_cases hm:x.mx < 0
     ·rw [if_pos hm] at h4 ⊢;omega
     ·rw [if_neg hm] at h4 ⊢;omega)
    have HST:=Lib.hid hstep
    have hg4:Grows wc (wc.alloc (.cells (spC g) 35)):=(Grows.refl _).alloc _
    obtain ⟨bI,hbI⟩:∃ z,z=wc.heap.size:=⟨_,rfl⟩
    have hS4:SpAt (wc.alloc (.cells (spC g) 35)) bI g:=⟨blk_alloc_at _ _ _ _ hbI,hgl⟩
    have hcs:=C3.out.size
    have hnI:¬ MutB sb rb ob bI:=by unfold MutB;omega
    have hov0:over (spC spZero) 0 (spC g)=spC g:=over_all (by rw [spC_size,hspz];rfl)
    have hld4:=loadSp_all wc bG (spC g) V3.out.g.eq hspz
    have V4:=V3.out.chg (Chg.of_grows (p:=fun _=>False) hg4) ⟨fun h=>h,fun h=>h,fun h=>h,fun h=>h,fun h=>h,fun h=>h,fun h=>h⟩
    have SR4:=SR3.out.grows hg4
    have hlo:=HLO.out
    have NF4:NfAt (fun b=>b < lo) (wc.alloc (.cells (spC g) 35)) A cap k (id+1):=HNF.out.chg (((Chg.of_grows G1.out).trans C3.out).trans (Chg.of_grows hg4)) fun b _ hb e=>by unfold MutB at e;omega
    have hun:=unset_any (fun b=>b < lo) k.size k (id+1) A cap _ bI g (Nat.le_refl _) HND.out NF4 hS4 (by have:=G1.out.below.size;have:=HLO.out;omega)
    have k4:=V4.kids
    have WS4:=(WS1.out.chg C3.out fun _ _ h=>h).grows hg4
    have HG4:=Lib.hid hg4
    have HBI:=Lib.hid hbI
    clear hrunS hstep hS4 V4 SR4 NF4 WS4 hg4 hcs hnI hlo hcn
    go_upto_region 5 with fail
    rw [← hbI]
    clear hld4 hov0 hbI
    generalize wc.alloc (.cells (spC g) 35)=w4 at *
    go_wp2_with fail
    (with_reducible refine hun.mono ?_)
    rintro e9 w5 ⟨rfl,hS5,hC5⟩
    have hg5:Grows wc w5:=Chg.grows (n:=0) HG4.out hC5 fun b hb=>by have:=HBI.out;omega
    have V5:=V3.out.chg (Chg.of_grows (p:=fun _=>False) hg5) ⟨fun h=>h,fun h=>h,fun h=>h,fun h=>h,fun h=>h,fun h=>h,fun h=>h⟩
    have SR5:=SR3.out.grows hg5
    have C5:=C3.out.trans (Chg.of_grows hg5)
    have CW:=(Chg.of_grows (p:=MutB sb rb ob) G1.out).trans C5
    have hlo:=HLO.out
    have NF5:NfAt (fun b=>b < lo) w5 A cap k (id+1):=HNF.out.chg CW fun b _ hb e=>by unfold MutB at e;omega
    have WS5:=WS1.out.chg C5 fun _ _ h=>h
    have hne:=NE.out
    have hcont5:=sturns1_any F d a HST.out id KA kn kc A cap ws WA wk (.func (.func f) #[] caps) K w5 V5.m V5.x V5.d V5.wy V5.a V5.o ⟨⟨hne.1,hne.2.1,hne.2.2.2.2.2.1⟩,hne.2.2.2.1,hne.2.2.2.2.2.2,hne.2.2.1⟩ hlo SR5.lts HND.out HXO.out NF5 WS5 HWL.out hdF9 hks (HK.out.mono CW (Nat.le_refl _)) hs
    have hcall:=hrow (id+1) A cap a (unsetV k g) .nil none 0 _ _ σ1 w5 HND.out NF5 ha (HG.out.unset HND.out) (WyAt.zero _ _) (by simp [Wy.len];exact hks) hcont5 SR5
    rw [HRS.out,show Wy.nil.len=0 from rfl] at hcall
    have t1:w5.cell? ⟨bM,0,none⟩=some (.pointer (some ⟨sb,0,none⟩)):=Blk.cell V5.m (by simp) 0
    have t2:=V5.kids
    have t3:w5.cell? ⟨bA,0,none⟩=some (.int .i64 a):=Blk.cell V5.a (by simp) 0
    have t4:=loadSp_all w5 bI _ hS5.eq (by rw [spC_size];exact hS5.len)
    have HCW:=Lib.hid CW
    clear hun hS5 hC5 hg5 V5 SR5 C5 CW NF5 WS5 hcont5 hne hlo k4
    go_wp2_with fail
    (with_reducible refine hcall.mono ?_)
    rintro e9 w6 ⟨rfl,hS6,hC6⟩
    have HS6:=Lib.hid hS6
    have HC6:=Lib.hid (HCW.out.trans hC6)
    clear hcall hS6 hC6
    go_wp2_with fail
    exact ⟨rfl,.tuple #[],results_none rfl _ _ _,rfl,HS6.out,HC6.out⟩
end
end Go.Proofs.YtnjagecmhdagkaaGreatDoor
