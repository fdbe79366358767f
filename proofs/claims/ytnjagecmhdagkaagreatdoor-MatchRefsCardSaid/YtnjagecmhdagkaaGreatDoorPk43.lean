/-
 Several texts of the proof: MatDu, StepS, MatDc.
-/
import Derived.Test.YtnjagecmhdagkaaGreatDoorPk42
import Derived.Test.YtnjagecmhdagkaaGreatDoorPk02
import Derived.BigQuiet
import Derived.Test.YtnjagecmhdagkaaGreatDoorPk00
import Derived.Laws.AppendOwnNone
import Derived.Deep.RegionLaw
set_option linter.unusedSimpArgs false
set_option linter.unusedVariables false
/-
  Matches, the document's way by all ways: groups within nodes have no stretch, walked.
-/
namespace Go.Proofs.YtnjagecmhdagkaaGreatDoor
open Go.RowKit
attribute [local go_sem ↓] zeroNodeR ldNodeR_eq stNodeR_eq ldSp_eq stSp_eq zeroSp
attribute [local go_sem] loadNodeR loadNodeR_if storeNodeR storeNodeR_if ndA_one_slice loadSp loadSp_if storeSp storeSp_if spC_one
set_option maxRecDepth 100000 in
set_option maxHeartbeats 4000000 in
theorem unset_anyD:∀ (N:Nat) (f:Fr) (ok:Nat→Prop) (A:Option Addr) (cap:Nat) (g:Spn) (w:World),f.size≤N→f.size≤1000→AllNd f→FrAt ok w A cap f→g.length=20 →
  Calls Tryz.prog 81 #[.slice A f.len cap,spV g] w fun e w'=>e=.returned (spV (unsetV f g))∧Grows w w':=by
 intro N
 induction N with
 | zero =>
  intro f ok A cap g w hN _ _ hA hgl
  obtain rfl:f=.nil:=Fr.nil_of_len (by have:=f.len_size;omega)
  have hsz:(spC g).size=20:=by rw [spC_size];exact hgl
  have hz0:(spC spZero).size=20:=by rw [spC_size];rfl
  have hov:over (spC spZero) 0 (spC g)=spC g:=over_all (by omega)
  have hsp:span (spC g) 0 20=spC g:=span_all hsz
  clear hA hN
  go_enter Tryz.func81,Tryz.ntmps81
  go_upto_region 1 with fail
  have HT:=Lib.hid (TwoAt.start w (spC g) (spC spZero) 35 35)
  generalize (w.alloc (Obj.cells (spC g) 35)).alloc (Obj.cells (spC spZero) 35)=w2 at *
  have hld:=loadSp_all w2 w.heap.size (spC g) HT.out.fst hsz
  have hst:=storeSp_all w2 (w.heap.size+1) (spC g) HT.out.snd hz0 hsz (spC_one _)
  go_wp2_with fail
  go_loopg [5,6] 0 (fun q v5 _ wr=>v5=.int .i64 0∧wr=w2)
  case atStart=>exact ⟨rfl,rfl⟩
  case round =>
   obtain ⟨rfl,rfl⟩:=hrel
   go_wp2_with fail
   exact bodyPost_ret (results_sp 4 rfl rfl (Blk.get _ HT.out.snd (by omega)) hsz) rfl ⟨rfl,Chg.grows (n:=0) HT.out.grows (chg_setBlkM (K:=fun b=>b=w.heap.size+1) rfl) fun b e=>by omega⟩
 | succ N ih =>
  intro f ok A cap g w hN hS hnd hA hgl
  have hl:=f.len_size
  have hl2:f.len≤1000:=by omega
  have hsz:(spC g).size=20:=by rw [spC_size];exact hgl
  have hz0:(spC spZero).size=20:=by rw [spC_size];rfl
  have hA:FrAt (fun b=>b < w.heap.size) w A cap f:=hA.mono fun b hb _=>hb
  have HA:=Lib.hid hA
  have HN:=Lib.hid hN
  have HS:=Lib.hid hS
  have HND:=Lib.hid hnd
  clear hA hN hS hl hnd
  go_enter Tryz.func81,Tryz.ntmps81
  go_upto_region 1 with fail
  have HT:=Lib.hid (TwoAt.start w (spC g) (spC spZero) 35 35)
  generalize (w.alloc (Obj.cells (spC g) 35)).alloc (Obj.cells (spC spZero) 35)=w2 at *
  have hz2:=HT.out.size
  obtain ⟨bS,hbS⟩:∃ z,z=w.heap.size:=⟨_,rfl⟩
  obtain ⟨bR,hbR⟩:∃ z,z=w.heap.size+1:=⟨_,rfl⟩
  rw [← hbR,← hbS]
  have hS0:blk w2 bS=spC g:=by rw [hbS];exact HT.out.fst
  have hR0:blk w2 bR=spC spZero:=by rw [hbR];exact HT.out.snd
  have HS0:=Lib.hid hS0
  have HR0:=Lib.hid hR0
  have HG2:=Lib.hid HT.out.grows
  have HBS:=Lib.hid (And.intro hbS hbR)
  clear hS0 hR0 HT hbS hbR hz2
  go_wp2_with fail
  go_loopg [5,6] f.len (fun q v5 _ wr=>∃ (i:Nat) (a c:Fr) (g1:Spn),q+i=f.len∧v5=.int .i64 i∧f=a.app c∧a.len=i∧AllNd c∧blk wr bS=spC g1∧g1.length=20∧unsetV f g=unsetV c g1∧Chg (fun b=>b=bS) w2 wr)
  case atStart=>exact ⟨0,.nil,f,g,by omega,rfl,rfl,rfl,HND.out,HS0.out,hgl,rfl,Chg.refl _ _⟩
  case round =>
   obtain ⟨i,a,c,g1,hq,rfl,hf,ha,hc,hb,hg1,hu,hch⟩:=hrel
   have hRr:blk wr bR=spC spZero:=(chg_blk hch (Blk.inHeap HR0.out (by omega)) (by have:=HBS.out;omega)).trans HR0.out
   have hsz1:(spC g1).size=20:=by rw [spC_size];exact hg1
   have HRr:=Lib.hid hRr
   have HB:=Lib.hid hb
   have HU:=Lib.hid hu
   have HCH:=Lib.hid hch
   have HGr:Grows w wr:=Chg.grows (n:=0) HG2.out hch fun b e=>by have:=HBS.out;omega
   cases c with
   | nil =>
    have hi:i=f.len:=by rw [hf,Fr.app_nil];exact ha.symm
    subst hi
    have hld:=loadSp_all wr bS (spC g1) hb hsz1
    have hst:=storeSp_all wr bR (spC g1) hRr hz0 hsz1 (spC_one _)
    clear hq hf ha hb hu hch hRr
    go_wp2_with fail
    exact bodyPost_ret (results_sp 4 rfl rfl (Blk.get _ HRr.out (by omega)) hsz1) rfl ⟨by rw [HU.out];rfl,Chg.grows (n:=0) HGr (chg_setBlkM (K:=fun b=>b=bR) rfl) fun b e=>by have:=HBS.out;omega⟩
   | cons x kids rest =>
    have hil:i < f.len:=by rw [hf,Fr.len_app,ha];simp [Fr.len]
    have i1:(i:Int) < (f.len:Int):=by omega
    have hks:kids.size+1+a.size≤f.size:=by rw [hf,Fr.size_app];simp [Fr.size];omega
    obtain ⟨hx,hck,hcr⟩:=hc
    have hAr:=HA.out.grows HGr
    obtain ⟨b1,o1,rfl,ib0⟩:=HA.out.some (by omega)
    obtain ⟨Kd,kc,hK,n0⟩:=hAr.node hf rfl
    rw [ha] at n0
    have ib1:InHeap b1 wr:=Nat.lt_of_lt_of_le ib0 HGr.below.size
    have hne:b1≠bS:=by have:=HBS.out;unfold InHeap at ib0;omega
    have d0:wr.cell? ⟨b1,o1+i*262,none⟩=some (.int .i64 (x.kind:Nat)):=n0 0 _ (ndA_0 _ _ _ _ _ _ _)
    have d1:wr.cell? ⟨b1,o1+i*262+258,none⟩=some (.int .i64 (x.n:Nat)):=by have:=n0 258 _ (ndA_258 _ _ _ _ _ _ _);rwa [← Nat.add_assoc] at this
    have d2:wr.cell? ⟨b1,o1+i*262+261,none⟩=some (.slice Kd kids.len kc):=by have:=n0 261 _ (ndA_261 _ _ _ _ _ _ _);rwa [← Nat.add_assoc] at this
    have hxn:=hx.n
    have HK:=Lib.hid hK
    have HQ:=Lib.hid hq
    have HF:=Lib.hid (And.intro hf ha)
    have HCK:=Lib.hid hck
    have HCR:=Lib.hid hcr
    have HKS:=Lib.hid hks
    have HD2:=Lib.hid d2
    obtain ⟨wx,hwx⟩:∃ z,z=wr:=⟨_,rfl⟩
    subst hwx
    clear hAr n0 hK hck hcr hks hq hf ha hx hu hch hRr
    go_upto_if 17 with fail
    go_cut [] (fun wc=>blk wc bS=spC (if x.kind=7 then spSet g1 x.n (-1) (-1) else g1)∧Chg (fun b=>b=bS) wx wc)
    case first =>
     by_cases hk:x.kind=7
     ·have k1:((x.kind:Int) == 7)=true:=by rw [hk];rfl
      have hxi:(x.n:Int) < 10:=by omega
      have hz1:0 < (spC g1).size:=by omega
      have q3:=(Blk.cell HB.out hz1 (x.n*2)).trans (spC_get (by omega))
      have q4:=(Blk.cell HB.out hz1 (x.n*2+1)).trans (spC_get (by omega))
      have q5:∀ k,wx.frozen? ⟨bS,k,none⟩=false:=fun k=>Blk.free HB.out hz1 k
      have q6:InHeap bS wx:=Blk.inHeap HB.out hz1
      generalize g1.getD (x.n*2) 0=u0 at q3
      generalize g1.getD (x.n*2+1) 0=u1 at q4
      clear hb
      go_wp2_with fail
      go_meet
      exact ⟨by rw [if_pos hk];exact sp_put HB.out hg1 _ _,sp_chg _ _ _ _ _⟩
     ·have k1:((x.kind:Int) == 7)=false:=by rw [beq_eq_false_iff_ne];omega
      go_wp2_with fail
      go_meet
      exact ⟨by rw [if_neg hk];exact HB.out,Chg.refl _ _⟩
    case rest =>
     obtain ⟨hb2,hch2⟩:=hcut
     obtain ⟨g2,hg2⟩:∃ z,(if x.kind=7 then spSet g1 x.n (-1) (-1) else g1)=z:=⟨_,rfl⟩
     rw [hg2] at hb2
     have hl2:g2.length=20:=by rw [← hg2];split;rw [spSet_len];exact hg1;exact hg1
     have HG2E:=Lib.hid hg2
     have hsz2:(spC g2).size=20:=by rw [spC_size];exact hl2
     have hsp2:span (spC g2) 0 20=spC g2:=span_all hsz2
     have iS:InHeap bS wc:=Blk.inHeap hb2 (by omega)
     have d2c:=cellC HD2.out hch2 hne
     have ib2:InHeap b1 wc:=World.block_lt_of_cell? _ _ d2c
     have HB2:=Lib.hid hb2
     have HCH2a:=Lib.hid hch2
     have HKc:=Lib.hid (HK.out.chg hch2 fun b hb ho=>by have:=HBS.out;omega)
     have hcall:=fun (m:More)=>ih kids _ Kd kc g2 (more wc m) (by have:=HN.out;have:=HKS.out;omega) (by have:=HS.out;have:=HKS.out;omega) HCK.out (HKc.out.grows ⟨m,rfl⟩) hl2
     have HCALL:=Lib.hid hcall
     clear hch2 hcall HK HD2 hb hg2
     go_upto_region 6 with fail
     refine region_tail 6 (by kernel_rfl) (by kernel_rfl) ?_
     simp only [List.take_succ_cons,List.take_zero,List.drop_succ_cons,List.drop_zero]
     repeat (go_big_quiet_step (fail))
     refine wpQuiet_nil ?_
     intro _ hw'
     obtain ⟨m2,rfl⟩:=hw'
     go_wp2_with fail
     (with_reducible refine (HCALL.out m2).mono ?_)
     rintro e9 w3 ⟨rfl,hg3⟩
     have hg3w:Grows wc w3:=Grows.trans ⟨m2,rfl⟩ hg3
     have hb3:blk w3 bS=spC g2:=blkG HB2.out (by omega) hg3w
     obtain ⟨g3,hg3e⟩:∃ z,unsetV kids g2=z:=⟨_,rfl⟩
     rw [hg3e]
     have hl3:g3.length=20:=by rw [← hg3e,unset_len2];exact hl2
     have hsz3:(spC g3).size=20:=by rw [spC_size];exact hl3
     have hst:=storeSp_all w3 bS (spC g3) hb3 hsz2 hsz3 (spC_one _)
     have HG3E:=Lib.hid hg3e
     have HB3:=Lib.hid hb3
     have HC3:Hid (Chg (fun b=>b=bS) wx (setBlk w3 bS (spC g3))):=Lib.hid (HCH2a.out.trans ((Chg.of_grows hg3w).trans (chg_setBlkM (K:=fun b=>b=bS) rfl)))
     clear hg3 hg3w hb3 hg3e
     go_wp2_with fail
     go_roundg (gk - 1)
     case measure=>have:=HQ.out;omega
     case rel =>
      refine ⟨i+1,a.app (.cons x kids .nil),rest,g3,by have:=HQ.out;omega,by go_num,by rw [Fr.app_assoc];exact HF.out.1,by rw [Fr.len_app,HF.out.2];rfl,HCR.out,Blk.get _ HB3.out (by omega),hl3,?_,HCH.out.trans HC3.out⟩
      rw [HU.out,← HG3E.out,← HG2E.out]
      rfl
end Go.Proofs.YtnjagecmhdagkaaGreatDoor
namespace Go.Proofs.YtnjagecmhdagkaaGreatDoor
open Go.RowKit
set_option maxRecDepth 3000 in
theorem step_append_rdS {P:Program} (w:World) {ops:Array Oper} {o:Oper} {a:Act} {K:Act→World→Prop} {Q:Exit→Act→World→Prop} {E:Prop} (hgd:o.guard=none) (s x:Operand) (t:TypeId)
  (ho:o.op=.call { callee:=.builtin .append,args:=#[s,x],argTypes:=#[t,t] })
  (base:Nat) (e:TypeId) (i:TypeInfo) (z:Value) (size bytes:Nat) (ht:P.underlying t=some (.slice e)) (hi:P.info? e=some i) (hz:i.zero=some z)
  (hsize:i.size=size) (hby:i.bytes=bytes) (hzs:z.cells.size=size) (hp:0 < size) (v:Value) (n:Nat) (xs:List Value) (hs:a.eval s=v) (hown:w.ownsRow base e size v n xs)
  (ao:Option Addr) (m c:Nat) (news:List Value) (hx:a.eval x=.slice ao m c) (hnil:ao=none→m=0∧c=0) (hR:Rd w size ao m news) (h1:∀ u ∈ news,u.oneCell'=true)
  (h63:n+m≤maxLen) (hbytes:(n+m)*bytes≤140737488355328) (hbase:base≤w.heap.size)
  (h:∀ v' w',w'.ownsRow base e size v' (n+m) (xs++news)→w.grownBy w' v.ownBlock→K (a.put o.dst v') w') :
  if Region.wanted o (yielded ops a.tmps)=true then Oper.wp P o a w K Q else E:=by
 have hw:Region.wanted o (yielded ops a.tmps)=true:=by simp [Region.wanted,hgd]
 rw [if_pos hw]
 cases ao with
 | none =>
  obtain ⟨rfl,rfl⟩:=hnil rfl
  have hn:news=[]:=List.eq_nil_of_length_eq_zero (by simpa using hR.1)
  subst hn
  have hrun:=run_append_owned_none (P:=P) (w:=w) base t o.type e i size ht hi v n xs hown
  unfold Oper.wp
  simp [execOp,ho,resolve,invoke,builtin,hs,hx,hrun,Result.andThen]
  exact h v w (by simpa using hown) ⟨rfl,rfl,rfl,Nat.le_refl _,fun _ _ _=>rfl⟩
 | some ad =>
  refine wp_append_own w s x t ho base e i z size bytes ht hi hz hsize hby hzs hp v n xs hs hown ad m c news hx hR.1 (fun j u hu=>?_) h1 h63 hbytes hbase (fun v' w' a1 a2 _=>h v' w' a1 a2)
  have hm:0 < m:=by
   have:=hR.1
   rcases Nat.eq_zero_or_pos m with e0 | e0
   ·subst e0
    rw [List.eq_nil_of_length_eq_zero (l:=news) (by simpa using this)] at hu
    cases hu
   ·exact e0
  obtain ⟨b,f,eq,_,hc⟩:=hR.2 hm
  injection eq with eq
  subst eq
  have hadd:(⟨b,f,none⟩:Addr).add j=⟨b,f+j,none⟩:=by unfold Addr.add;split <;> simp_all
  rw [hadd]
  exact hc j u hu
end Go.Proofs.YtnjagecmhdagkaaGreatDoor
namespace Go.Proofs.YtnjagecmhdagkaaGreatDoor
open Go.RowKit
section
variable {P:Program} {ops:Array Oper} {o:Oper} {a:Act} {w:World} {t e:TypeId} {size bytes:Nat}
set_option maxRecDepth 3000 in
theorem step_append_rdE {K:Act→World→Prop} {Q:Exit→Act→World→Prop} {E:Prop} (hE:ElemOf P t e size bytes) (s x:Operand) (base:Nat) (v:Value) (n:Nat) (xs:List Value) (ao:Option Addr) (m c:Nat) (news:List Value)
  (hgd:o.guard=none) (ho:o.op=.call { callee:=.builtin .append,args:=#[s,x],argTypes:=#[t,t] })
  (hs:a.eval s=v) (hown:w.ownsRow base e size v n xs) (hx:a.eval x=.slice ao m c) (hnil:ao=none→m=0∧c=0) (hR:Rd w size ao m news) (h1:∀ u ∈ news,u.oneCell'=true) (hn:n+m≤1000000) (hbase:base≤w.heap.size)
  (h:∀ v' w',w'.ownsRow base e size v' (n+m) (xs++news)→Chg (fun b=>v.ownBlock=some b) w w'→K (a.put o.dst v') w') :
  if Region.wanted o (yielded ops a.tmps)=true then Oper.wp P o a w K Q else E:=by
 obtain ⟨hu,⟨i,z,hi,hz0,hz1,hz2,hz3⟩,hp,hlow⟩:=hE
 exact step_append_rdS w hgd s x t ho base e i z size bytes hu hi hz0 hz1 hz2 hz3 hp v n xs hs hown ao m c news hx hnil hR h1 (by unfold maxLen;omega)
  (by
   have h2:(n+m)*bytes≤(n+m)*100000:=Nat.mul_le_mul_left _ hlow
   omega) hbase (fun v' w' a1 a2=>h v' w' a1 (chg_grownX a2))
end
set_option maxRecDepth 3000 in
theorem own_made1 {w:World} {base size:Nat} {e:TypeId} (c:Array Value) (hb:base≤w.heap.size) (hs:c.size=size):(w.alloc (.cells c e)).ownsRow base e size (.slice (some ⟨w.heap.size,0,none⟩) 1 1) 1 c.toList :=
 ⟨by simp [hs],.inr ⟨w.heap.size,1,c,rfl,hb,heap_alloc_new w _,Nat.le_refl _,by unfold maxLen;omega,by omega,by rw [List.take_of_length_le (by simp [hs])]⟩⟩
set_option maxRecDepth 3000 in
theorem WyRow.app {ok:Nat→Prop} {w:World} {b:Wy} {ys:List Value} (hb:WyRow ok w b ys):∀ {a:Wy} {xs:List Value},WyRow ok w a xs→WyRow ok w (a.app b) (xs++ys)
 | .nil,xs,h=>by cases h;exact hb
 | .cons l k r,xs,⟨A,cap,zs,us,e,h1,h2,h3,h4⟩=>⟨A,cap,zs,us++ys,by rw [e];rfl,h1,h2,WyRow.app hb h3,h4⟩
def OwnSt (base:Nat) (w:World) (v:Value) (L:List St):Prop:=∃ xs,w.ownsRow base 87 22 v L.length xs∧StRow (fun b=>base≤b∧v.ownBlock≠some b) w L xs
section
variable {base:Nat} {w w':World} {v:Value} {L:List St} {q:Nat→Prop}
set_option maxRecDepth 3000 in
theorem OwnSt.nil (base:Nat) (w:World):OwnSt base w (.slice none 0 0) []:=⟨[],World.ownsRow_nil w base _ 22,rfl⟩
set_option maxRecDepth 3000 in
theorem OwnSt.chg (h:OwnSt base w v L) (hc:Chg q w w') (hq:∀ b,base≤b→b < w.heap.size→¬ q b):OwnSt base w' v L:=by
 obtain ⟨xs,h1,h2⟩:=h
 exact ⟨xs,own_chgX h1 hc fun b hb=>hq b (own_ltX h1 hb).2 (own_ltX h1 hb).1,h2.chg hc fun b hb ho=>hq b ho.1 hb⟩
set_option maxRecDepth 3000 in
theorem OwnSt.grows (h:OwnSt base w v L) (hg:Grows w w'):OwnSt base w' v L:=h.chg (Chg.of_grows (p:=fun _=>False) hg) fun _ _ _ h=>h
set_option maxRecDepth 3000 in
theorem OwnSt.own {b:Nat} (h:OwnSt base w v L) (hb:v.ownBlock=some b):base≤b∧b < w.heap.size:=by
 obtain ⟨xs,h1,h2⟩:=h
 exact ⟨(own_ltX h1 hb).2,(own_ltX h1 hb).1⟩
set_option maxRecDepth 3000 in
theorem OwnSt.at (h:OwnSt base w v L):SsAt (fun b=>base≤b) w v L:=by
 obtain ⟨xs,h1,h2⟩:=h
 obtain ⟨A,cap,rfl,k1,k2,k3,k4,k5⟩:=own_rdX h1
 refine ⟨A,cap,xs,rfl,⟨k3,k4,k1,k2,fun _ a e=>?_⟩,h2.mono fun b _ hb=>⟨hb.1,fun a e e2=>hb.2 ?_⟩⟩
 ·obtain ⟨g,o,t⟩:=a
  exact (k5 g o t e).2.2.1
 ·obtain ⟨g,o,t⟩:=a
  rw [(k5 g o t e).2.2.2.2,e2]
set_option maxRecDepth 3000 in
theorem OwnSt.push {xs:List Value} {t:St} {A:Option Addr} {cp e' cap:Nat} (hrow:StRow (fun b=>base≤b∧v.ownBlock≠some b) w L xs)
  (hg:t.2.1.length=20) (hw:WyAt (fun b=>base≤b∧v.ownBlock≠some b) w A cp t.2.2)
  (hown:w'.ownsRow base 87 22 (.slice (some ⟨e',0,none⟩) (L.length+1) cap) (L.length+1) (xs++(stC t.1 t.2.1 (.slice A t.2.2.len cp)).toList)) (hc:Chg (fun b=>v.ownBlock=some b) w w') (he:v.ownBlock=some e'∨w.heap.size≤e') :
  OwnSt base w' (.slice (some ⟨e',0,none⟩) (L.length+1) cap) (L++[t]):=by
 have h1:∀ b,b < w.heap.size→(base≤b∧v.ownBlock≠some b)→(base≤b∧v.ownBlock≠some b)∧b < w.heap.size:=fun b hb ho=>⟨ho,hb⟩
 have h2:∀ b,b < w.heap.size→((base≤b∧v.ownBlock≠some b)∧b < w.heap.size)→¬ v.ownBlock=some b:=fun b _ ho=>ho.1.2
 have h3:∀ b,b < w'.heap.size→((base≤b∧v.ownBlock≠some b)∧b < w.heap.size)→base≤b∧(Value.slice (some ⟨e',0,none⟩) (L.length+1) cap).ownBlock≠some b:=fun b _ ho=>⟨ho.1.1,fun e=>by
  have e2:=ownBlock_slice e
  rcases he with he | he
  ·rw [e2] at ho;exact ho.1.2 he
  ·have:=ho.2;omega⟩
 exact ⟨xs++(stC t.1 t.2.1 (.slice A t.2.2.len cp)).toList,by rw [List.length_append];exact hown,StRow.app (StRow.one hg (((hw.mono h1).chg hc h2).mono h3)) (((hrow.mono h1).chg hc h2).mono h3)⟩
end
set_option maxRecDepth 3000 in
theorem SsAt.past {base:Nat} {w w':World} {v u:Value} {L:List St} {e' n cap:Nat} (h:SsAt (fun b=>base≤b∧v.ownBlock≠some b) w u L) (hc:Chg (fun b=>v.ownBlock=some b) w w') (he:v.ownBlock=some e'∨w.heap.size≤e') :
  SsAt (fun b=>base≤b∧(Value.slice (some ⟨e',0,none⟩) n cap).ownBlock≠some b) w' u L :=
 ((h.mono (ok2:=fun b=>(base≤b∧v.ownBlock≠some b)∧b < w.heap.size) fun b hb ho=>⟨ho,hb⟩).chg hc fun b _ ho=>ho.1.2).mono fun b _ ho=>⟨ho.1.1,fun e=>by
  have e2:=ownBlock_slice e
  rcases he with he | he
  ·rw [e2] at ho;exact ho.1.2 he
  ·have:=ho.2;omega⟩
section
variable (s:List UInt8) (most:Int) (sb B:Nat)
def DaPost (w:World) (R:List St × Nat) (e:Ending) (w':World):Prop:=∃ v,e=.returned v∧SsAt (fun b=>w.heap.size≤b) w' v R.1∧blk w' sb=daC s R.2 most∧Chg (fun b=>b=sb) w w'
def Free (w:World) (v:Value):Prop:=∀ b o n cap,v=.slice (some ⟨b,o,none⟩) n cap→∀ j,w.frozen? ⟨b,j,none⟩=false
def DaPostF (w:World) (R:List St × Nat) (e:Ending) (w':World):Prop:=∃ v,e=.returned v∧SsAt (fun b=>w.heap.size≤b) w' v R.1∧blk w' sb=daC s R.2 most∧Chg (fun b=>b=sb) w w'∧Free w' v
def RowD (f:Fr):Prop:=∀ (A:Option Addr) (cap a n:Nat) (g:Spn) (w:World),FrAt (fun b=>b≠sb) w A cap f→a≤s.length→SpIn s.length g→blk w sb=daC s n most→n≤B →
 Calls Tryz.prog 31 #[.pointer (some ⟨sb,0,none⟩),.slice A f.len cap,.int .i64 a,spV g] w (DaPostF s most sb w (rowR10 s most f a g n))
def TurnD (x:NdV) (k:Fr) (F d a:Nat):Prop:=∀ (A:Option Addr) (cap n:Nat) (g:Spn) (w:World),FrAt (fun b=>b≠sb) w A cap k→a≤s.length→SpIn s.length g→blk w sb=daC s n most→n≤B →
 Calls Tryz.prog 82 #[.pointer (some ⟨sb,0,none⟩),.agg (ndC x (.slice A k.len cap)),.int .i64 d,.int .i64 a,spV g] w (DaPostF s most sb w (turnR most x (fun a g n=>rowR10 s most k a g n) (unsetV k) F d a g n))
def NodeD (x:NdV) (k:Fr):Prop:=∀ (A:Option Addr) (cap a n:Nat) (g:Spn) (w:World),FrAt (fun b=>b≠sb) w A cap k→a≤s.length→SpIn s.length g→blk w sb=daC s n most→n≤B →
 Calls Tryz.prog 52 #[.pointer (some ⟨sb,0,none⟩),.agg (ndC x (.slice A k.len cap)),.int .i64 a,spV g] w (DaPost s most sb w (nodeR10 s most x k a g n))
end
section
variable {s:List UInt8} {most:Int} {sb:Nat} {w w' W:World} {e:Ending} {R:List St × Nat}
set_option maxRecDepth 3000 in
theorem DaPostF.weak (h:DaPostF s most sb w R e w'):DaPost s most sb w R e w':=by
 obtain ⟨v,h1,h2,h3,h4,_⟩:=h
 exact ⟨v,h1,h2,h3,h4⟩
set_option maxRecDepth 3000 in
theorem OwnSt.free {base:Nat} {v:Value} {L:List St} (h:OwnSt base w v L):Free w v:=by
 obtain ⟨xs,⟨_,h1⟩,_⟩:=h
 intro b o n cap e j
 rcases h1 with h1 | ⟨b',cap',c,e2,_,hh,_⟩
 ·rw [e] at h1
  simp at h1
 ·rw [e] at e2
  injection e2 with e2
  injection e2 with e2
  injection e2 with e2
  subst e2
  unfold World.frozen?
  rw [hh]
  simp
set_option maxRecDepth 3000 in
theorem free_blk {b n cap:Nat} {c:Array Value} (hb:blk w b=c) (hc:0 < c.size):Free w (.slice (some ⟨b,0,none⟩) n cap):=by
 intro b' o' n' cap' e j
 injection e with e
 injection e with e
 injection e with e
 subst e
 exact Blk.free hb hc j
set_option maxRecDepth 3000 in
theorem DaPost.late (hg:Grows W w) (h:DaPost s most sb w R e w'):DaPost s most sb W R e w':=by
 obtain ⟨v,h1,h2,h3,h4⟩:=h
 exact ⟨v,h1,h2.mono fun b _ hb=>Nat.le_trans hg.below.size hb,h3,(Chg.of_grows hg).trans h4⟩
end
end Go.Proofs.YtnjagecmhdagkaaGreatDoor
