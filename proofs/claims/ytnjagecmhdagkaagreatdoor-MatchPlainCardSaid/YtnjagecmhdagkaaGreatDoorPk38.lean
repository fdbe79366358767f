/-
 Several texts of the proof: MatMa, MatMt.
-/
import Derived.Test.YtnjagecmhdagkaaGreatDoorPk27
import Derived.Test.YtnjagecmhdagkaaGreatDoorPk37
import Derived.Test.YtnjagecmhdagkaaGreatDoorPk26
set_option linter.unusedSimpArgs false
set_option linter.unusedVariables false
set_option maxRecDepth 3000
/-
  Matches: nodes get numbers: the walk.
-/
namespace Go.Proofs.YtnjagecmhdagkaaGreatDoor
open Go.RowKit
attribute [local go_sem ↓] zeroNm bldNm_eq ldNm_eq stNm_eq bldSlNm_eq zeroNode ldNode_eq stNode_eq
attribute [local go_sem] bld_nm loadNm loadNm_if storeNm storeNm_if loadNode loadNode_if storeNode storeNode_if ndA_one_slice nm_one_nd nm_size_nd bldSlNm_run over_nm nmA_set
set_option maxRecDepth 100000 in
set_option maxHeartbeats 2000000 in
theorem numbered_any:∀ (m:Nat) (f:Fr) (ok:Nat→Prop) (A:Option Addr) (cap:Nat) (w:World) (np k0:Nat),f.size≤m→k0+f.size≤1000000→FrAt ok w A cap f→¬ ok np→blk w np=#[.int .i64 k0] →
  Calls Tryz.prog 23 #[.slice A f.len cap,.pointer (some ⟨np,0,none⟩)] w fun e w'=>∃ A' cap',e=.returned (.slice A' f.len cap')∧NfAt (fun b=>w.heap.size≤b) w' A' cap' f k0∧blk w' np=#[.int .i64 (k0+f.size:Nat)]∧Chg (fun b=>b=np) w w':=by
 intro m
 induction m with
 | zero =>
  intro f ok A cap w np k0 hm hmx hA hok hnp
  cases f with
  | cons x k r=>simp [Fr.size] at hm
  | nil =>
   have HNP:=Lib.hid hnp
   clear hA hok hnp hm hmx
   go_enter Tryz.func23,Tryz.ntmps23
   go_wp2_with fail
   go_loopg [5,11] 0 (fun q v5 v11 wr=>v5=.slice none 0 0∧v11=.int .i64 0∧wr=w)
   case atStart=>exact ⟨rfl,rfl,rfl⟩
   case round =>
    obtain ⟨rfl,rfl,rfl⟩:=hrel
    go_wp2_with fail
    go_ret
    exact ⟨none,0,rfl,NfAt.zero _ _ _,by simpa [Fr.size] using HNP.out,Chg.refl _ _⟩
 | succ m ih =>
 intro f ok A cap w np k0 hm hmx hA hok hnp
 have inp:InHeap np w:=Blk.inHeap hnp (by simp)
 have HA:=Lib.hid hA
 have HOK:=Lib.hid hok
 have HNP:=Lib.hid hnp
 have HM:=Lib.hid hm
 have HIH:=Lib.hid ih
 clear hA hok hnp hm ih
 go_enter Tryz.func23,Tryz.ntmps23
 go_wp2_with fail
 go_loopg [5,11] f.len (fun q v5 v11 wr=>∃ (i:Nat) (a c:Fr) (xs:List Value),q+i=f.len∧v11=.int .i64 i∧f=a.app c∧a.len=i∧NbAt w np k0 a v5 xs wr)
 case atStart=>exact ⟨0,.nil,f,[],by omega,rfl,rfl,rfl,NbAt.start HNP.out⟩
 case round =>
  obtain ⟨i,a,c,xs,hq,rfl,hf,hai,hN⟩:=hrel
  obtain ⟨Av,capv,rfl,hNf⟩:=hN.ret
  cases c with
  | nil =>
   have hi:i=f.len:=by rw [hf,Fr.app_nil];exact hai.symm
   have hfa:f=a:=by rw [hf,Fr.app_nil]
   subst hi hfa
   have HN:=Lib.hid hN
   have HNf:=Lib.hid hNf
   have hin:decide (f.len < f.len)=false:=decide_eq_false (Nat.lt_irrefl _)
   clear hN hNf hf hq
   go_wp2_with fail
   go_ret
   exact ⟨Av,capv,rfl,HNf.out,HN.out.cnt,HN.out.chg⟩
  | cons x kids rest =>
   have hil:i < f.len:=by rw [hf,Fr.len_app,hai];simp [Fr.len]
   have hsz:kids.size+1+a.size≤f.size:=by rw [hf,Fr.size_app];simp [Fr.size];omega
   obtain ⟨b,o,hAs,_⟩:=HA.out.some (by omega)
   subst hAs
   have hAr:=HA.out.chg hN.chg fun b _ hb e=>by subst e;exact HOK.out hb
   obtain ⟨K,capk,hK,hcells⟩:=hAr.node hf rfl
   have hld:loadPart Tryz.prog wr 95 b (o+i*262) 262=.ok (.agg (ndC x (.slice K kids.len capk))) wr:=nd_load (ndA_size _ _ _ _ _ _ _) fun j u hu=>by
    rw [Nat.add_assoc,← hai];exact hcells j u hu
   have HQ:=Lib.hid hq
   have HN:=Lib.hid hN
   have HK:=Lib.hid hK
   have HF:=Lib.hid hf
   have HAI:=Lib.hid hai
   have HS:=Lib.hid hsz
   have inr:InHeap np wr:=Nat.lt_of_lt_of_le inp hN.chg.size
   have n0:wr.cell? ⟨np,0,none⟩=some (.int .i64 (k0+a.size:Nat)):=Blk.cell hN.cnt (by simp) 0
   have nf:∀ k,wr.frozen? ⟨np,k,none⟩=false:=fun k=>Blk.free hN.cnt (by simp) k
   clear hq hN hK hf hai hAr hcells hNf hsz
   go_upto_region 5 with fail
   go_cut [8] (fun v8 wx=>v8=.pointer (some ⟨wr.heap.size+1,0,none⟩)∧TwoAt wr (ndC x (.slice K kids.len capk)) (nmC x (.slice K kids.len capk) (k0+a.size) (.slice none 0 0)) wx)
   case first =>
    go_region_law (fail)
    all_goals (go_wp2_with fail;go_meet;exact ⟨rfl,by repeat' first | exact TwoAt.start _ _ _ _ _ | refine TwoAt.drewN ?_ _ | refine TwoAt.drew ?_⟩)
   case rest =>
    obtain ⟨rfl,hT⟩:=hcut
    have HT:=Lib.hid hT
    have hsz5:=hT.size
    have inc:InHeap np wc:=Nat.lt_of_lt_of_le inr hT.grows.below.size
    have hbn:blk wc np=#[.int .i64 (k0+a.size:Nat)]:=(by obtain ⟨m,rfl⟩:=hT.grows;exact blk_more _ _ _ inr:blk wc np=blk wr np).trans HN.out.cnt
    have n1:wc.cell? ⟨np,0,none⟩=some (.int .i64 (k0+a.size:Nat)):=Blk.cell hbn (by simp) 0
    have nf1:∀ k,wc.frozen? ⟨np,k,none⟩=false:=fun k=>Blk.free hbn (by simp) k
    have ninr:np < wr.heap.size:=inr
    have hka:k0+a.size+1≤1000000:=by have:=HS.out;omega
    have hput:blk (wc.setCell ⟨np,0,none⟩ (.int .i64 (k0+a.size+1))) np=#[.int .i64 (k0+a.size+1:Nat)]:=by rw [pa_put hbn (by simp)];simp
    have hxp:wr.heap.size≠np:=by omega
    have hnp2:wr.heap.size+1≠np:=by omega
    have hc6:Chg (fun b=>b=np) wc (wc.setCell ⟨np,0,none⟩ (.int .i64 (k0+a.size+1))):=chg_cell _ _ _ _
    have b6x:blk (wc.setCell ⟨np,0,none⟩ (.int .i64 (k0+a.size+1))) wr.heap.size=ndC x (.slice K kids.len capk):=(chg_blk hc6 (by omega) hxp).trans HT.out.fst
    have b6n:blk (wc.setCell ⟨np,0,none⟩ (.int .i64 (k0+a.size+1))) (wr.heap.size+1)=nmC x (.slice K kids.len capk) (k0+a.size) (.slice none 0 0):=(chg_blk hc6 (by omega) hnp2).trans HT.out.snd
    have K6:=(HK.out.grows HT.out.grows).chg hc6 fun b _ hb e=>by subst e;exact HOK.out hb
    have C6:=Lib.hid ((Chg.of_grows (p:=fun b=>b=np) HT.out.grows).trans hc6)
    have hsz6:(wc.setCell ⟨np,0,none⟩ (.int .i64 (k0+a.size+1))).heap.size=wr.heap.size+2:=by simpa using hsz5
    have hcall:=HIH.out kids ok K capk _ np (k0+a.size+1) (by have:=HM.out;have:=HS.out;omega) (by have:=HS.out;omega) K6 HOK.out hput
    clear n0 nf hld hT
    go_upto_region 7 with fail
    clear n1 nf1 hbn hc6 hput HT hsz5 inc K6
    generalize wc.setCell ⟨np,0,none⟩ (.int .i64 (k0+a.size+1))=w6 at *
    have x6:w6.cell? ⟨wr.heap.size,261,none⟩=some (.slice K kids.len capk):=(Blk.cell b6x (by simp [ndA_size]) 261).trans (ndA_261 _ _ _ _ _ _ _)
    go_wp2_with fail
    (with_reducible refine hcall.mono ?_)
    rintro e w7 ⟨A7,cK,rfl,hN7,hb7,hC7⟩
    have hin6:wr.heap.size+1 < w6.heap.size:=by omega
    have b7n:blk w7 (wr.heap.size+1)=nmC x (.slice K kids.len capk) (k0+a.size) (.slice none 0 0):=(chg_blk hC7 hin6 hnp2).trans b6n
    have i7n:InHeap (wr.heap.size+1) w7:=Blk.inHeap b7n (by rw [nmC_size];decide)
    have hcn:w7.cell? ⟨wr.heap.size+1,263,none⟩=some (.slice none 0 0):=(Blk.cell b7n (by rw [nmC_size];decide) 263).trans (nmA_263 (ndA_size _ _ _ _ _ _ _))
    have hfn:∀ k,w7.frozen? ⟨wr.heap.size+1,k,none⟩=false:=fun k=>Blk.free b7n (by rw [nmC_size];decide) k
    have hs7:w6.heap.size≤w7.heap.size:=hC7.size
    have hc8:Chg (fun b=>b=wr.heap.size+1) w7 (w7.setCell ⟨wr.heap.size+1,263,none⟩ (.slice A7 kids.len cK)):=chg_cell _ _ _ _
    have b8n:blk (w7.setCell ⟨wr.heap.size+1,263,none⟩ (.slice A7 kids.len cK)) (wr.heap.size+1)=nmC x (.slice K kids.len capk) (k0+a.size) (.slice A7 kids.len cK):=by
     rw [pa_put b7n (by rw [nmC_size];decide)]
     exact nmA_set (ndA_size _ _ _ _ _ _ _) _
    have hs8:(w7.setCell ⟨wr.heap.size+1,263,none⟩ (.slice A7 kids.len cK)).heap.size=w7.heap.size:=by simp
    have ld8:loadPart Tryz.prog (w7.setCell ⟨wr.heap.size+1,263,none⟩ (.slice A7 kids.len cK)) 102 (wr.heap.size+1) 0 264=.ok (.agg (nmC x (.slice K kids.len capk) (k0+a.size) (.slice A7 kids.len cK))) _:=loadNm_all _ _ _ b8n (nmC_size _ _ _ _)
    have N8:=Lib.hid (hN7.chg hc8 fun b _ hb e=>by omega)
    have C8:=Lib.hid (chg_late ((C6.out).trans hC7) hc8 fun b hb e=>by omega)
    have cn8:blk (w7.setCell ⟨wr.heap.size+1,263,none⟩ (.slice A7 kids.len cK)) np=#[.int .i64 (k0+a.size+1+kids.size:Nat)]:=(chg_blk hc8 (by omega) (fun e=>hnp2 e.symm)).trans hb7
    clear hcall
    go_upto_region 8 with fail
    clear hC7 hN7 hb7 hcn hfn b7n hc8 C6 b6x b6n x6
    generalize w7.setCell ⟨wr.heap.size+1,263,none⟩ (.slice A7 kids.len cK)=w8 at *
    obtain ⟨v8,hv8⟩:∃ z,z=w8.alloc (.cells (nmC x (.slice K kids.len capk) (k0+a.size) (.slice A7 kids.len cK)) 102):=⟨_,rfl⟩
    have hg9:Grows w8 v8:=by rw [hv8];exact (Grows.refl _).alloc _
    have hbk:blk v8 w7.heap.size=nmC x (.slice K kids.len capk) (k0+a.size) (.slice A7 kids.len cK):=by rw [hv8];exact blk_alloc_at _ _ _ _ hs8.symm
    have C9:=Lib.hid (C8.out.trans (Chg.of_grows hg9))
    have N9:=Lib.hid (N8.out.grows hg9)
    have cn9:blk v8 np=#[.int .i64 (k0+a.size+1+kids.size:Nat)]:=(by obtain ⟨m,hm⟩:=hg9;rw [hm];exact blk_more _ _ _ (Blk.inHeap cn8 (by simp)):blk v8 np=blk w8 np).trans cn8
    have hwr:w.heap.size≤wr.heap.size:=HN.out.chg.size
    have hnw:np < w.heap.size:=inp
    have hon:v8.ownsRow w.heap.size 102 264 (.slice Av a.len capv) a.len xs:=own_chgX HN.out.own C9.out fun b hb e=>by have:=(own_ltX HN.out.own hb).2;omega
    have hn6:a.len≤1000000:=by have:=a.len_size;omega
    have hi6:i≤1000000:=by have:=HAI.out;omega
    have hzk:w.heap.size≤v8.heap.size:=Nat.le_trans hwr C9.out.size
    have hH:Hid (w8.alloc (.cells (nmC x (.slice K kids.len capk) (k0+a.size) (.slice A7 kids.len cK)) 102)=v8):=Lib.hid hv8.symm
    clear hv8 cn8 hs7
    go_wp2_with (at_builtin;rw [hH.out];go_must (refine wpList_append_blk elemNm (.tmp 30) (.tmp 32) w.heap.size (.slice Av a.len capv) a.len xs w7.heap.size (nmC x (.slice K kids.len capk) (k0+a.size) (.slice A7 kids.len cK)) rfl rfl (by simp [Act.eval,Act.put]) hon (by simp [Act.eval,Act.put]) hbk (nmC_size _ _ _ _) (nm_one_slice _ _ _ _ _ _ _ _) hn6 hzk ?_;intro e9 cap9 w9 hown9 hC9 hl9))
    have hP:=HN.out.push hnw C9.out cn9 (N9.out.mono fun b _ hb=>by omega) hown9 hC9 hl9
    go_roundg (gk - 1)
    case measure=>have:=HQ.out;omega
    case rel=>exact ⟨i+1,a.app (Fr.one x kids),rest,_,by have:=HQ.out;omega,by simp,by rw [HF.out,Fr.app_assoc];rfl,by rw [Fr.len_app,HAI.out];rfl,hP⟩
end Go.Proofs.YtnjagecmhdagkaaGreatDoor
namespace Go.Proofs.YtnjagecmhdagkaaGreatDoor
open Go.RowKit
def nthF:Fr→Nat→Option (NdV × Fr)
 | .nil,_=>none
 | .cons x k r,i=>if i=0 then some (x,k) else if i - 1 < k.size then nthF k (i - 1) else nthF r (i - 1 - k.size)
theorem nthF_lt:∀ {f:Fr} {i:Nat} {y:NdV × Fr},nthF f i=some y→i < f.size:=by
 intro f
 induction f with
 | nil=>intro i y h;cases h
 | cons x k r ihk ihr =>
  intro i y h
  simp only [nthF] at h
  simp only [Fr.size]
  split at h
  ·omega
  ·split at h
   ·omega
   ·have:=ihr h;omega
theorem nthF_ok:∀ {f:Fr} {i:Nat} {y:NdV × Fr},AllNd f→nthF f i=some y→NdOk y.1:=by
 intro f
 induction f with
 | nil=>intro i y _ h;cases h
 | cons x k r ihk ihr =>
  intro i y ha h
  simp only [nthF] at h
  split at h
  ·cases h;exact ha.1
  ·split at h
   ·exact ihk ha.2.1 h
   ·exact ihr ha.2.2 h
theorem allNum_nth (f:Fr):∀ (g:Fr) (m:Nat),(∀ i,i < g.size→nthF f (m+i)=nthF g i)→AllNum (fun i x k=>nthF f i=some (x,k)) g m:=by
 intro g
 induction g with
 | nil=>intro m _;trivial
 | cons x k r ihk ihr =>
  intro m h
  simp only [Fr.size] at h
  refine ⟨?_,ihk (m+1) fun i hi=>?_,ihr (m+1+k.size) fun i hi=>?_⟩
  ·have:=h 0 (by omega)
   simpa [nthF] using this
  ·have:=h (i+1) (by omega)
   rw [show m+1+i=m+(i+1) by omega,this]
   simp only [nthF]
   rw [if_neg (by omega),if_pos (by omega)]
   rfl
  ·have:=h (i+1+k.size) (by omega)
   rw [show m+1+k.size+i=m+(i+1+k.size) by omega,this]
   simp only [nthF]
   rw [if_neg (by omega),if_neg (by omega)]
   congr 1
   omega
theorem allNum_self (f:Fr):AllNum (fun i x k=>nthF f i=some (x,k)) f 0:=allNum_nth f f 0 fun i _=>by rw [Nat.zero_add]
theorem numOk_nth {f:Fr} (h:AllNd f) (hz:f.size≤1000000):NumOk (fun i x k=>nthF f i=some (x,k)) :=
 ⟨fun i x k y l h1 h2=>by rw [h1] at h2;cases h2;exact ⟨rfl,rfl⟩,fun i x k h1=>⟨nthF_ok h h1,by have:=nthF_lt h1;omega⟩⟩
def matchR (s:List UInt8) (f:Fr) (refs:Bool) (k fuel:Int):Spn × Bool × Int :=
 if k < 0∨(s.length:Int) < k then (spZero,false,if refs=true∧fuel < 0 then 100 else 0)
 else if refs then match allF s f fuel (s.length+1 - k.toNat) k.toNat ⟨0,none⟩ with
  | none=>(spZero,false,100)
  | some σ=>match σ.best with
   | none=>(spZero,false,0)
   | some y=>(y.1,true,0)
 else match plainV s f (s.length+1 - k.toNat) k.toNat with
  | none=>(spZero,false,0)
  | some g=>(g,true,0)
theorem plain_len {s:List UInt8} {f:Fr}:∀ {n k:Nat} {g:Spn},plainV s f n k=some g→g.length=20:=by
 intro n
 induction n with
 | zero=>intro k g h;cases h
 | succ n ih =>
  intro k g h
  simp only [plainV] at h
  split at h
  ·cases h
   rw [spSet_len,give_len]
   rfl
  ·exact ih h
def mtV (y:Spn × Bool × Int):Ending:=.returned (.tuple #[spV y.1,.bool y.2.1,.int .i64 y.2.2])
theorem results_sp4 {fn:Func} {T:Array Value} {w:World} {b:Nat} {c:Array Value} {v x:Value} (k j l:Nat) (h:fn.results=#[.cell k 35,.tmp j,.tmp l]) (hT:T.getD k undef=.pointer (some ⟨b,0,none⟩)) (hj:T.getD j undef=v) (hl:T.getD l undef=x) (hb:blk w b=c) (hc:c.size=20):(results fn T).run Tryz.prog w=.ok (.tuple #[.agg c,v,x]) w:=by
 have:=loadVarSp hb hc
 rw [Array.getD_eq_getD_getElem?] at hT hj hl
 simp [results,h,hT,hj,hl,asAddr,this]
attribute [local go_sem ↓] ldSp_eq stSp_eq zeroSp bldSp_eq
attribute [local go_sem] loadSp loadSp_if storeSp storeSp_if spC_one bldSp_run
section
variable {s:List UInt8} {k fuel:Int}
theorem over_zero:over (spC spZero) 0 (spC spZero)=spC spZero:=over_all rfl
theorem span_zero:span (spC spZero) 0 20=spC spZero:=span_all (by rw [spC_size];rfl)
set_option maxRecDepth 100000 in
set_option maxHeartbeats 8000000 in
theorem match_any (hs:s.length≤60000) (f:Fr) (t:PS) (hnd:AllNd f) (hfz:f.size≤90000) (hfu:t.refs=true→fuel≤1000000000) (ok:Nat→Prop) (g:Nat) (w:World) (hre:ReAt ok w g f t) (htz:TzAt w) :
  Calls Tryz.prog 11 #[.pointer (some ⟨g,1,none⟩),.string (tx s),.int .i64 k,.int .i64 fuel] w fun e w'=>(e=mtV (matchR s f t.refs k fuel)∧(matchR s f t.refs k fuel).1.length=20)∧Grows w w':=by
 have h1:=over_zero
 have hz:(spC spZero).size=20:=by rw [spC_size];rfl
 obtain ⟨R,hR⟩:∃ R,matchR s f t.refs k fuel=R:=⟨_,rfl⟩
 rw [hR]
 have HR:=Lib.hid hR
 have HND:=Lib.hid hnd
 have HFZ:=Lib.hid hfz
 have HFU:=Lib.hid hfu
 have HRE:=Lib.hid hre
 have HTZ:=Lib.hid htz
 clear hR hnd hfz hfu hre htz
 go_enter Tryz.func11,Tryz.ntmps11
 go_upto_region 4 with fail
 have hb1:blk (w.alloc (.cells (spC spZero) 35)) w.heap.size=spC spZero:=blk_alloc_at _ _ _ _ rfl
 have hg1:Grows w (w.alloc (.cells (spC spZero) 35)):=(Grows.refl _).alloc _
 have hsz1:(w.alloc (.cells (spC spZero) 35)).heap.size=w.heap.size+1:=by simp
 have hg2:Grows (w.alloc (.cells (spC spZero) 35)) ((w.alloc (.cells (spC spZero) 35)).alloc (.cells #[.int .i64 0] 3)):=(Grows.refl _).alloc _
 have hb2:blk ((w.alloc (.cells (spC spZero) 35)).alloc (.cells #[.int .i64 0] 3)) (w.heap.size+1)=#[.int .i64 0]:=blk_alloc_at _ _ _ _ (by simp)
 have hsz2:((w.alloc (.cells (spC spZero) 35)).alloc (.cells #[.int .i64 0] 3)).heap.size=w.heap.size+2:=by simp
 have hb12:=blkG hb1 (by omega) hg2
 have hg12:=hg1.trans hg2
 obtain ⟨rb,hrb⟩:∃ z,z=w.heap.size:=⟨_,rfl⟩
 obtain ⟨np,hnp⟩:∃ z,z=w.heap.size+1:=⟨_,rfl⟩
 rw [← hnp] at hb2 ⊢
 rw [← hrb] at hb12 ⊢
 clear hg1 hg2 hb1 hsz1
 generalize ((w.alloc (.cells (spC spZero) 35)).alloc (.cells #[.int .i64 0] 3))=w2 at *
 have htree:=tree3_any (HRE.out.grows hg12) (by have:=HFZ.out;omega)
 have HB2:=Lib.hid (And.intro hb12 hb2)
 have HG2:=Lib.hid hg12
 have HNU:=Lib.hid (show rb≠np∧w.heap.size≤rb∧w.heap.size≤np∧np < w2.heap.size∧rb < w2.heap.size by omega)
 clear hb12 hb2 hg12 hrb hnp hsz2
 go_wp2_with fail
 (with_reducible refine htree.mono ?_)
 rintro e9 w3 ⟨A,cap,rfl,hT3,hg3⟩
 have hb3:=blkG HB2.out.1 (by omega) hg3
 have hn3:=blkG HB2.out.2 (by simp) hg3
 have hnum:=numbered_any f.size f _ A cap w3 np 0 (Nat.le_refl _) (by have:=HFZ.out;omega) hT3.at_ (fun h=>by have:=h.1;have:=HNU.out;omega) hn3
 have HB3:=Lib.hid hb3
 have HG3:=Lib.hid (HG2.out.trans hg3)
 have hl3:=hg3.below.size
 have HL3:=Lib.hid hl3
 clear htree hT3 hb3 hn3 hg3 hl3
 go_wp2_with fail
 (with_reducible refine hnum.mono ?_)
 rintro e9 w4 ⟨A4,cap4,rfl,hN4,hb4,hc4⟩
 have hg4:Grows w w4:=Chg.grows (n:=0) HG3.out hc4 fun b hb=>by have:=HNU.out;omega
 have hr4:=(chg_blk hc4 (Blk.inHeap HB3.out (by omega)) HNU.out.1).trans HB3.out
 have href:=refs_any (HRE.out.grows hg4)
 have HN4:=Lib.hid hN4
 have HB4:=Lib.hid hr4
 have HG4:=Lib.hid hg4
 have HI4:=Lib.hid (Blk.inHeap hr4 (by omega))
 clear hnum hN4 hb4 hc4 hg4 hr4 HB3 HG3 HL3 HB2 HG2
 go_wp2_with fail
 (with_reducible refine href.mono ?_)
 rintro e9 w5 ⟨rfl,hw5⟩
 subst hw5
 obtain ⟨rf,hrf⟩:∃ b,t.refs=b:=⟨_,rfl⟩
 have hRR:=HR.out
 rw [hrf] at hRR ⊢
 have HFU2:=HFU.out
 rw [hrf] at HFU2
 have HFU3:=Lib.hid HFU2
 have hsame:setBlk w4 rb (spC spZero)=w4:=Blk.same HB4.out (by omega)
 have hbr:=HB4.out
 have iR:=HI4.out
 clear href hrf HFU HFU2 HR
 by_cases hk:k < 0∨(s.length:Int) < k
 ·unfold matchR at hRR
  rw [if_pos hk] at hRR
  rcases (show rf=false∨(rf=true∧fuel < 0)∨(rf=true∧¬ fuel < 0) by cases rf <;> simp <;> omega) with rfl | ⟨rfl,hfu⟩ | ⟨rfl,hfu⟩
  ·have hp:mtV (spZero,false,0)=mtV R:=by rw [← hRR];rfl
   have hl:R.1.length=20:=by rw [← hRR];rfl
   clear hRR
   rcases (Decidable.em (k < 0)) with hk1 | hk1
   ·go_wp2_with fail
    exact bodyPost_ret (results_sp4 8 9 10 rfl rfl rfl rfl hbr hz) rfl ⟨⟨hp,hl⟩,HG4.out⟩
   ·have hk2:(s.length:Int) < k:=by omega
    go_wp2_with fail
    exact bodyPost_ret (results_sp4 8 9 10 rfl rfl rfl rfl hbr hz) rfl ⟨⟨hp,hl⟩,HG4.out⟩
  ·have hp:mtV (spZero,false,100)=mtV R:=by rw [← hRR,if_pos ⟨rfl,hfu⟩]
   have hl:R.1.length=20:=by rw [← hRR];rfl
   clear hRR
   rcases (Decidable.em (k < 0)) with hk1 | hk1
   ·go_wp2_with fail
    exact bodyPost_ret (results_sp4 8 9 10 rfl rfl rfl rfl hbr hz) rfl ⟨⟨hp,hl⟩,HG4.out⟩
   ·have hk2:(s.length:Int) < k:=by omega
    go_wp2_with fail
    exact bodyPost_ret (results_sp4 8 9 10 rfl rfl rfl rfl hbr hz) rfl ⟨⟨hp,hl⟩,HG4.out⟩
  ·have hp:mtV (spZero,false,0)=mtV R:=by rw [← hRR,if_neg fun h=>hfu h.2]
   have hl:R.1.length=20:=by rw [← hRR];rfl
   clear hRR
   rcases (Decidable.em (k < 0)) with hk1 | hk1
   ·go_wp2_with fail
    exact bodyPost_ret (results_sp4 8 9 10 rfl rfl rfl rfl hbr hz) rfl ⟨⟨hp,hl⟩,HG4.out⟩
   ·have hk2:(s.length:Int) < k:=by omega
    go_wp2_with fail
    exact bodyPost_ret (results_sp4 8 9 10 rfl rfl rfl rfl hbr hz) rfl ⟨⟨hp,hl⟩,HG4.out⟩
 ·have hk1:¬ k < 0:=fun h=>hk (.inl h)
  have hk2:¬ (s.length:Int) < k:=fun h=>hk (.inr h)
  unfold matchR at hRR
  rw [if_neg hk] at hRR
  obtain ⟨k0,rfl⟩:∃ k0:Nat,k=k0:=⟨k.toNat,by omega⟩
  rw [Int.toNat_natCast] at hRR
  have hk0:k0≤s.length:=by omega
  have hk2b:decide (s.length < k0)=false:=by rw [decide_eq_false_iff_not];omega
  clear hk
  cases rf with
  | true =>
   rw [if_pos rfl] at hRR
   have hall:=all_any hs (HFU3.out rfl) f HND.out HFZ.out 0 _ A4 cap4 k0 w4 HN4.out hk0
   obtain ⟨Q,hQ⟩:∃ Q,allF s f fuel (s.length+1 - k0) k0 ⟨0,none⟩=Q:=⟨_,rfl⟩
   rw [hQ] at hRR hall
   have HRR:=Lib.hid hRR
   clear hQ hRR hsame hbr
   go_wp2_with fail
   (with_reducible refine hall.mono ?_)
   rintro e9 w6 ⟨hA,hg6⟩
   obtain ⟨gr,b,x,rfl,hRx,hgl⟩:∃ gr b x,e9=.returned (.tuple #[spV gr,.bool b,.int .i64 x])∧R=(gr,b,x)∧gr.length=20:=by
    have hR3:=HRR.out
    cases Q with
    | none=>exact ⟨_,_,_,hA,hR3.symm,rfl⟩
    | some σ =>
     unfold AllPost at hA
     dsimp only at hA hR3
     cases hb:σ.best with
     | none=>rw [hb] at hA hR3;exact ⟨_,_,_,hA,hR3.symm,rfl⟩
     | some y=>rw [hb] at hA hR3;exact ⟨_,_,_,hA.1,hR3.symm,hA.2⟩
   have hb6:=blkG HB4.out (by omega) hg6
   have hgs:(spC gr).size=20:=by rw [spC_size];exact hgl
   have hov:over (spC spZero) 0 (spC gr)=spC gr:=over_all (by omega)
   have iR6:InHeap rb w6:=Blk.inHeap hb6 (by omega)
   have hF:blk (setBlk w6 rb (spC gr)) rb=spC gr:=Blk.get _ hb6 (by omega)
   have hGF:Grows w (setBlk w6 rb (spC gr)):=Chg.grows (n:=0) (HG4.out.trans hg6) (chg_setBlkM (K:=fun b=>b=rb) rfl) fun b hb=>by have:=HNU.out;omega
   have HF:=Lib.hid (And.intro hF hGF)
   clear hF hGF hall hA
   go_wp2_with fail
   exact bodyPost_ret (results_sp4 8 9 10 rfl rfl rfl rfl HF.out.1 hgs) rfl ⟨⟨by rw [hRx];rfl,by rw [hRx];exact hgl⟩,HF.out.2⟩
  | false =>
   rw [if_neg Bool.false_ne_true] at hRR
   have hall:=plain_any hs (numOk_nth HND.out (by have:=HFZ.out;omega)) f 0 _ A4 cap4 k0 w4 (allNum_self f) HN4.out (HTZ.out.grows HG4.out) hk0
   obtain ⟨Q,hQ⟩:∃ Q,plainV s f (s.length+1 - k0) k0=Q:=⟨_,rfl⟩
   rw [hQ] at hRR hall
   have HQ:=Lib.hid hQ
   have HRR:=Lib.hid hRR
   clear hQ hRR hsame hbr
   go_wp2_with fail
   (with_reducible refine hall.mono ?_)
   rintro e9 w6 ⟨hA,hg6⟩
   obtain ⟨gr,b,rfl,hRx,hgl⟩:∃ gr b,e9=.returned (.tuple #[spV gr,.bool b])∧R=(gr,b,0)∧gr.length=20:=by
    have hR3:=HRR.out
    cases Q with
    | none=>exact ⟨_,_,hA,hR3.symm,rfl⟩
    | some y=>exact ⟨_,_,hA,hR3.symm,plain_len HQ.out⟩
   have hb6:=blkG HB4.out (by omega) hg6
   have hgs:(spC gr).size=20:=by rw [spC_size];exact hgl
   have hov:over (spC spZero) 0 (spC gr)=spC gr:=over_all (by omega)
   have hov2:over (spC gr) 0 (spC gr)=spC gr:=over_all (by omega)
   have hspn:span (spC gr) 0 20=spC gr:=span_all hgs
   have iR6:InHeap rb w6:=Blk.inHeap hb6 (by omega)
   have hF:blk (setBlk w6 rb (spC gr)) rb=spC gr:=Blk.get _ hb6 (by omega)
   have hss:setBlk (setBlk w6 rb (spC gr)) rb (spC gr)=setBlk w6 rb (spC gr):=Blk.set_set _ _
   have hGF:Grows w (setBlk w6 rb (spC gr)):=Chg.grows (n:=0) (HG4.out.trans hg6) (chg_setBlkM (K:=fun b=>b=rb) rfl) fun b hb=>by have:=HNU.out;omega
   have HGF:=Lib.hid hGF
   clear hGF hall hA
   go_wp2_with fail
   exact bodyPost_ret (results_sp4 8 9 10 rfl rfl rfl rfl hF hgs) rfl ⟨⟨by rw [hRx];rfl,by rw [hRx];exact hgl⟩,HGF.out⟩
end
end Go.Proofs.YtnjagecmhdagkaaGreatDoor
