/-
 Several texts of the proof: MatPc, MatPf.
-/
import Derived.Test.YtnjagecmhdagkaaGreatDoorPk43
set_option linter.unusedSimpArgs false
set_option linter.unusedVariables false
set_option maxRecDepth 3000
/-
  Matches, the document's table: where the ends of a repetition are kept (place), walked.
-/
namespace Go.Proofs.YtnjagecmhdagkaaGreatDoor
open Go.RowKit
theorem elemBs:ElemOf Tryz.prog 153 77 1 24:=elemOf_of Tryz.underlying153 (by kernel_rfl) (by kernel_rfl) (z:=.slice none 0 0) (by kernel_rfl) (by kernel_rfl) (by decide) (by decide)
theorem oneC_nil:OneCells #[Value.slice none 0 0]:=by simp [OneCells,Value.oneCell']
def plcN (s:List UInt8) (x:NdV) (a d:Nat):Nat:=capD x d*(s.length+1)+a
theorem plc_mod {s:List UInt8} {x:NdV} {a d:Nat} (ha:a≤s.length):plcN s x a d % (s.length+1)=a∧plcN s x a d / (s.length+1)=capD x d:=by
 unfold plcN
 constructor
 ·rw [Nat.mul_comm,Nat.mul_add_mod]
  exact Nat.mod_eq_of_lt (by omega)
 ·rw [Nat.mul_comm,Nat.mul_add_div (by omega),Nat.div_eq_of_lt (by omega),Nat.add_zero]
theorem plc_turns {s:List UInt8} {x:NdV} {k:Fr} {a d:Nat} (ha:a≤s.length):turnsS s.length x (endsF s k) (plcN s x a d % (s.length+1)) (plcN s x a d / (s.length+1))=turnsS s.length x (endsF s k) a d:=by
 rw [(plc_mod ha).1,(plc_mod ha).2,turnsS_cap]
theorem place_next {s:List UInt8} {f:Fr} {tb i eb ec m cap9 e9:Nat} {ow ow2:Nat→Nat} {w wx w9:World} {x:NdV} {k:Fr} {v:Value} {ys:List Value} (ht:DtAt s f tb ow2 wx) (hnx:DtNext f tb ow ow2 w wx) (hn:nthF f i=some (x,k)) (hE:DtEnds f tb ow2 wx i eb ec v m ys)
  (hv:∀ b,v.ownBlock=some b→ow2 b=i+3) (hys:∀ j u,ys[j]?=some u→DtMemo s x k ow2 wx j u)
  (h1:w9.ownsRow 0 77 1 (.slice (some ⟨e9,0,none⟩) (m+1) cap9) (m+1) (ys++#[Value.slice none 0 0].toList)) (h2:Chg (fun b=>v.ownBlock=some b) wx w9) (h3:v.ownBlock=some e9∨wx.heap.size≤e9) :
  ∀ wc,Grows (w9.setCell ⟨eb,i,none⟩ (.slice (some ⟨e9,0,none⟩) (m+1) cap9)) wc→∃ (ow3:Nat→Nat) (eb3 ec3:Nat) (v3:Value) (m3:Nat) (ys3:List Value),DtAt s f tb ow3 wc∧DtNext f tb ow ow3 w wc∧DtEnds f tb ow3 wc i eb3 ec3 v3 m3 ys3∧(∀ b,v3.ownBlock=some b→ow3 b=i+3)∧(∀ j u,ys3[j]?=some u→DtMemo s x k ow3 wc j u)∧m+1=m3:=by
 intro wc h4
 obtain ⟨p1,p2⟩:=ht.putRow hn hE h1 h2 rfl h3 hv (fun j u hu=>by
  rcases Nat.lt_or_ge j ys.length with hj | hj
  ·rw [List.getElem?_append_left hj] at hu
   exact hys j u hu
  ·rw [List.getElem?_append_right hj] at hu
   have:u=.slice none 0 0:=by
    obtain ⟨h5,h6⟩:=List.getElem?_eq_some_iff.1 hu
    rw [← h6]
    simp
   exact .inl this) (Nat.le_succ m)
 have q1:=p1.grows h4
 have q2:=(hnx.trans p2).trans (DtNext.of_grows _ _ _ h4)
 obtain ⟨eb3,ec3,v3,m3,ys3,r1,r2,r3⟩:=q1.ends hn
 have heb:¬ v.ownBlock=some eb:=fun e=>by have h1:=hv eb e;have h2:=hE.low;omega
 have htb:¬ v.ownBlock=some tb:=fun e=>by have h1:=hv tb e;have h2:=ht.one;omega
 have hne:eb≠tb:=fun e=>by have h1:=ht.one;have h2:=hE.low;rw [e] at h2;omega
 have a1:wc.cell? ⟨eb,i,none⟩=some (.slice (some ⟨e9,0,none⟩) (m+1) cap9):=cellG (World.cell?_setCell_same _ _ _ (cellC hE.cell h2 heb)) h4
 have a2:wc.cell? ⟨tb,2,none⟩=some (.slice (some ⟨eb,0,none⟩) f.size ec):=cellG (cellC (cellC hE.list h2 htb) (chg_cell w9 eb i _) (fun e=>hne e.symm)) h4
 have a3:=r1.list
 rw [a2] at a3
 injection a3 with a3
 injection a3 with a3 _ _
 injection a3 with a3
 injection a3 with a3
 subst a3
 have a4:=r1.cell
 rw [a1] at a4
 injection a4 with a4
 obtain ⟨A,cp,a5,_⟩:=own_rdX r1.row
 rw [a5] at a4
 injection a4 with _ a4 _
 exact ⟨_,eb,ec3,v3,m3,ys3,q1,q2,r1,r2,r3,a4⟩
attribute [local go_sem ↓] zeroNodeR ldNodeR_eq stNodeR_eq
attribute [local go_sem] loadNodeR storeNodeR storeNodeR_if ndA_one_slice
set_option maxRecDepth 100000 in
set_option maxHeartbeats 4000000 in
theorem dplace_any {s:List UInt8} {f:Fr} {tb:Nat} {ow:Nat→Nat} {w:World} (hs:s.length≤900) (ht:DtAt s f tb ow w) {i:Nat} {x:NdV} {k:Fr} (hn:nthF f i=some (x,k)) (hf:f.size≤1000) {a d:Nat} (ha:a≤s.length) (hd:capD x d≤1000) (hd9:d≤1000000) :
  Calls Tryz.prog 80 #[.pointer (some ⟨tb,0,none⟩),.int .i64 i,.int .i64 a,.int .i64 d] w fun e w'=>∃ ow2,e=.returned (.int .i64 (plcN s x a d:Nat))∧DtAt s f tb ow2 w'∧DtNext f tb ow ow2 w w' ∧
   ∃ eb ec g cap m ys,DtEnds f tb ow2 w' i eb ec (.slice (some ⟨g,0,none⟩) m cap) m ys∧plcN s x a d < m∧ow2 g=i+3∧∀ j u,ys[j]?=some u→DtMemo s x k ow2 w' j u:=by
 have hil:=nthF_lt hn
 obtain ⟨lb,lo,lc,K,kc,I,ic,hN⟩:=ht.node hn
 have HT:=Lib.hid ht
 have HN:=Lib.hid hn
 have c1:=hN.list
 have il:=hN.inh
 obtain ⟨c0,itb⟩:=ht.str
 have hii:(i:Int) < (f.size:Int):=by omega
 have hld:loadPart Tryz.prog w 91 lb (lo+i*263) 262=.ok (.agg (ndC x (.slice K k.len kc))) w:=node_loadR (ndA_size _ _ _ _ _ _ _) fun j u hu=>by
  have hj:j < 262:=by
   have:=(Array.getElem?_eq_some_iff.1 hu).1
   rwa [ndA_size] at this
  rw [Nat.add_assoc]
  exact hN.cells j u (by rw [dfA_lt (ndA_size _ _ _ _ _ _ _) hj];exact hu)
 clear hN ht hn
 go_enter Tryz.func80,Tryz.ntmps80
 go_upto_region 2 with fail
 have hg1:Grows w (w.alloc (Obj.cells (ndC x (Value.slice K k.len kc)) 91)):=(Grows.refl _).alloc _
 have hX:blk (w.alloc (Obj.cells (ndC x (Value.slice K k.len kc)) 91)) w.heap.size=ndC x (Value.slice K k.len kc):=blk_alloc_at _ _ _ _ rfl
 obtain ⟨bX,hbX⟩:∃ z,z=w.heap.size:=⟨_,rfl⟩
 rw [← hbX] at hX ⊢
 generalize w.alloc (Obj.cells (ndC x (Value.slice K k.len kc)) 91)=w1 at *
 generalize Value.agg (ndC x (Value.slice K k.len kc))=VX
 have c259:=(Blk.cell hX (ndR_pos _ _) 259).trans (ndA_259 _ _ _ _ _ _ _)
 have c260:=(Blk.cell hX (ndR_pos _ _) 260).trans (ndA_260 _ _ _ _ _ _ _)
 have iX:InHeap bX w1:=Blk.inHeap hX (ndR_pos _ _)
 have HG1:=Lib.hid hg1
 obtain ⟨c,hc⟩:∃ z,capD x d=z:=⟨_,rfl⟩
 have HC:=Lib.hid hc
 rw [hc] at hd
 clear hX hbX hg1 hld c1 il c0 itb
 go_upto_if 21 with fail
 go_cut [3] (fun v3 wx=>v3=.int .i64 (c:Nat)∧wx=w1)
 case first =>
  by_cases hm:x.mx < 0
  ·have hmin:min (d:Int) (x.mn:Int)=(c:Int):=by unfold capD at hc;rw [if_pos hm] at hc;omega
   have hmb:decide (x.mx < 0)=true:=decide_eq_true hm
   clear hc
   go_wp2_with fail
   go_meet
   exact ⟨rfl,rfl⟩
  ·have hmb:decide (x.mx < 0)=false:=decide_eq_false hm
   have hdc:d=c:=by unfold capD at hc;rw [if_neg hm] at hc;exact hc
   clear hc
   subst hdc
   go_wp2_with fail
   go_meet
   exact ⟨rfl,rfl⟩
 case rest =>
  obtain ⟨rfl,rfl⟩:=hcut
  have ht1:=HT.out.grows HG1.out
  obtain ⟨c0,itb⟩:=ht1.str
  have itb2:InHeap tb wc:=itb
  obtain ⟨M,hM⟩:∃ z,c*(s.length+1)=z:=⟨_,rfl⟩
  have hMi:(c:Int)*((s.length:Int)+1)=(M:Int):=by rw [← hM];simp
  have hM9:M≤901000:=by
   rw [← hM]
   exact Nat.le_trans (Nat.mul_le_mul_right _ hd) (by omega)
  have hpl:plcN s x a d=M+a:=by unfold plcN;rw [HC.out,hM]
  have HPL:=Lib.hid hpl
  clear hpl hM
  have HT1:=Lib.hid ht1
  clear ht1 c259 c260 iX
  go_wp2_with fail
  clear c0 itb
  go_loopg [] (M+a+1) (fun q wr=>∃ (ow2:Nat→Nat) (eb ec:Nat) (v:Value) (m:Nat) (ys:List Value),M+a+1≤q+m∧DtAt s f tb ow2 wr∧DtNext f tb ow ow2 w wr∧DtEnds f tb ow2 wr i eb ec v m ys∧(∀ b,v.ownBlock=some b→ow2 b=i+3)∧∀ j u,ys[j]?=some u→DtMemo s x k ow2 wr j u)
  case atStart =>
   obtain ⟨eb,ec,v,m,ys,h1,h2,h3⟩:=HT1.out.ends HN.out
   exact ⟨ow,eb,ec,v,m,ys,by omega,HT1.out,DtNext.of_grows _ _ _ HG1.out,h1,h2,h3⟩
  case round =>
   obtain ⟨ow2,eb,ec,v,m,ys,hq,ht,hnx,hE,hv,hys⟩:=hrel
   obtain ⟨A,cap,rfl,hcp,h63,-,hnil,hA⟩:=own_rdX hE.row
   have HQ:=Lib.hid hq
   have HTR:=Lib.hid ht
   have HNX:=Lib.hid hnx
   have HE:=Lib.hid hE
   have HV:=Lib.hid hv
   have HYS:=Lib.hid hys
   have c2:=hE.list
   have ce:=hE.cell
   have fe:=hE.free
   have ie:InHeap eb wr:=hE.inh
   have itr:InHeap tb wr:=World.block_lt_of_cell? _ _ c2
   have heb:¬ (Value.slice A m cap).ownBlock=some eb:=fun e=>by have h1:=hv eb e;have h2:=hE.low;omega
   have HEB:=Lib.hid heb
   have HTB:Hid (¬ (Value.slice A m cap).ownBlock=some tb):=Lib.hid fun e=>by have h1:=hv tb e;have h2:=ht.one;omega
   clear hq ht hnx hv hys heb
   by_cases hm:m≤M+a
   ·have hmi:(m:Int)≤(M:Int)+(a:Int):=by omega
    have hrow:=hE.row
    have HROW:=Lib.hid hrow
    clear hE hrow
    obtain ⟨wx,hwx⟩:∃ z,z=wr:=⟨_,rfl⟩
    subst hwx
    go_upto_region 6 with fail
    go_region_law (first
     | (refine step_append_blk elemBs (.tmp 57) (.tmp 58) 0 (.slice A m cap) m ys wx.heap.size #[.slice none 0 0] (by rfl) (by rfl) (by simp [Act.eval,Act.put]) (own_moreX HROW.out (by repeat' first | exact Grows.refl _ | refine Grows.alloc ?_ _ | refine Grows.drewN ?_ _ | refine Grows.drew ?_)) (by simp [Act.eval,Act.put]) (by simp [go_sem]) rfl oneC_nil (by omega) (Nat.zero_le _) ?_;intro e9 cap9 w9 hown9 hC9 hE9;have hc9:Chg (fun b=>(Value.slice A m cap).ownBlock=some b) wx w9:=(Chg.of_grows (by repeat' first | exact Grows.refl _ | refine Grows.alloc ?_ _ | refine Grows.drewN ?_ _ | refine Grows.drew ?_)).trans hC9;have c9:=cellC ce hc9 HEB.out;have f9:w9.frozen? ⟨eb,i,none⟩=false:=(hc9.frozen (a:=⟨eb,i,none⟩) ie HEB.out).trans fe;have i9:InHeap eb w9:=World.block_lt_of_cell? _ _ c9;have t9:=cellC c2 hc9 HTB.out;have j9:InHeap tb w9:=World.block_lt_of_cell? _ _ t9;have HN9:=Lib.hid (place_next HTR.out HNX.out HN.out HE.out HV.out HYS.out hown9 hc9 (hE9.imp_right (Nat.le_trans (by simp))));clear hown9 hC9 hE9 hc9))
    all_goals (
     go_wp2_with fail
     obtain ⟨ow3,eb3,ec3,v3,m3,ys3,r1,r2,r3,r4,r5,r6⟩:=HN9.out _ (by repeat' first | exact Grows.refl _ | refine Grows.drewN ?_ _ | refine Grows.drew ?_)
     go_roundg (gk - 1)
     case measure=>have:=HQ.out;omega
     case rel=>exact ⟨ow3,eb3,ec3,v3,m3,ys3,by have:=HQ.out;omega,r1,r2,r3,r4,r5⟩)
   ·have hmi:¬ (m:Int)≤(M:Int)+(a:Int):=by omega
    have hmd:decide (m≤M+a)=false:=decide_eq_false hm
    rcases own_formX hE.row with ⟨e,h0⟩ | ⟨g,cap2,e,_,_,_,_⟩
    ·omega
    ·have HF:=Lib.hid e
     clear hE hnil hA e
     go_wp2_with fail
     go_ret
     refine ⟨by rw [HPL.out];rfl,ow2,HTR.out,HNX.out,eb,ec,g,cap2,m,ys,by rw [← HF.out];exact HE.out,by have:=HPL.out;omega,HV.out g (by rw [HF.out];rfl),HYS.out⟩
end Go.Proofs.YtnjagecmhdagkaaGreatDoor
namespace Go.Proofs.YtnjagecmhdagkaaGreatDoor
open Go.RowKit
def turnTo (s:List UInt8) (x:NdV) (k:Fr) (a d i:Nat):Pl:=fun j=>(decide (x.mn≤d) && decide (j=a)) || (List.range i).any fun i'=>decide (a≤i') && (endsF s k a i' && (decide (a < i') || decide (d < x.mn)) && turnsS s.length x (endsF s k) i' (d+1) j)
theorem turnTo_succ (s:List UInt8) (x:NdV) (k:Fr) (a d i j:Nat) (h:a≤i):turnTo s x k a d (i+1) j=(turnTo s x k a d i j || (endsF s k a i && (decide (a < i) || decide (d < x.mn)) && turnsS s.length x (endsF s k) i (d+1) j)):=by
 simp only [turnTo,List.range_succ,List.any_append,List.any_cons,List.any_nil,Bool.or_false,decide_eq_true h,Bool.true_and,Bool.or_assoc]
theorem turnTo_start (s:List UInt8) (x:NdV) (k:Fr) (a d:Nat) (j:Nat):turnTo s x k a d a j=(decide (x.mn≤d) && decide (j=a)):=by
 unfold turnTo
 have:(List.range a).any (fun i'=>decide (a≤i') && (endsF s k a i' && (decide (a < i') || decide (d < x.mn)) && turnsS s.length x (endsF s k) i' (d+1) j))=false:=by
  rw [List.any_eq_false]
  intro i hi
  rw [List.mem_range] at hi
  simp
  omega
 rw [this,Bool.or_false]
theorem turnTo_all {s:List UInt8} {x:NdV} {k:Fr} {a d:Nat} (ha:a≤s.length) (hm:¬ (0≤x.mx∧x.mx≤d)) (j:Nat):turnTo s x k a d (s.length+1) j=turnsS s.length x (endsF s k) a d j:=by
 rw [Bool.eq_iff_iff,turns_iff (endsF_rises s k) ha]
 unfold turnTo
 simp only [Bool.or_eq_true,Bool.and_eq_true,decide_eq_true_eq,List.any_eq_true,List.mem_range]
 constructor
 ·rintro (h | ⟨i,h1,h2,⟨h3,h4⟩,h5⟩)
  ·exact .inl h
  ·exact .inr ⟨hm,i,by omega,h3,h4,h5⟩
 ·rintro (h | ⟨_,i,h1,h3,h4,h5⟩)
  ·exact .inl h
  ·exact .inr ⟨i,by omega,(endsF_rises s k a i ha h3).1,⟨h3,h4⟩,h5⟩
theorem turnTo_none {s:List UInt8} {x:NdV} {k:Fr} {a d:Nat} (ha:a≤s.length) (hm:0≤x.mx∧x.mx≤d) (j:Nat):turnTo s x k a d a j=turnsS s.length x (endsF s k) a d j:=by
 rw [turnTo_start,Bool.eq_iff_iff,turns_iff (endsF_rises s k) ha]
 simp only [Bool.and_eq_true,decide_eq_true_eq]
 constructor
 ·exact .inl
 ·rintro (h | ⟨h,_⟩)
  ·exact h
  ·exact absurd hm h
theorem DtNext.memo {f:Fr} {tb g out:Nat} {ow ow2:Nat→Nat} {w w' w3:World} (h:DtNext f tb ow ow2 w w') (hc:Chg (fun b=>b=g) w' w3) (hg:2≤ow2 g) (ho:w.heap.size≤out) (hl:LenUp f tb w' w3):DtNext f tb ow (fun b=>if b=out then 1 else ow2 b) w w3:=by
 refine ⟨⟨⟨hc.os.trans h.cl.chg.os,hc.tape.trans h.cl.chg.tape,hc.output.trans h.cl.chg.output,Nat.le_trans h.cl.chg.size hc.size,fun b hb hq=>?_⟩,fun b hb=>?_⟩,h.len.trans hl⟩
 ·rw [hc.block b (Nat.lt_of_lt_of_le hb h.cl.chg.size) fun e=>by have e2:b=g:=e;rw [← e2,h.cl.same b hb] at hg;exact hq hg]
  exact h.cl.chg.block b hb hq
 ·show (if b=out then 1 else ow2 b)=ow b
  rw [if_neg (by omega)]
  exact h.cl.same b hb
theorem fuel_turn {n:Nat} {x:NdV} {a i d F:Nat} (hF:fuelT n x a d≤F+1) (hm:¬ (0≤x.mx∧x.mx≤d)) (hi:a < i∨(a=i∧d < x.mn)) (hin:i≤n):fuelT n x i (d+1)≤F:=by
 unfold fuelT capD at hF ⊢
 by_cases h:x.mx < 0
 ·rw [if_pos h,if_pos h] at hF ⊢
  omega
 ·rw [if_neg h,if_neg h] at hF ⊢
  omega
theorem DtEnds.ge {f:Fr} {tb i eb ec m q:Nat} {ow:Nat→Nat} {w:World} {v:Value} {ys:List Value} (hE:DtEnds f tb ow w i eb ec v m ys) (h:LenGe w tb i q):q≤m:=by
 obtain ⟨eb',n',ec2,A,c,m',q1,q2,q3⟩:=h
 have e1:=hE.list
 rw [q1] at e1
 injection e1 with e1
 injection e1 with e1 e2 e3
 injection e1 with e1
 injection e1 with e1
 subst e1
 rw [hE.cell] at q2
 injection q2 with q2
 obtain ⟨A3,c3,e6,_⟩:=own_rdX hE.row
 rw [e6] at q2
 injection q2 with _ q2 _
 omega
theorem nodeT_plain {s:List UInt8} {x:NdV} {k:Fr} {a d:Nat} (h7:x.kind≠7) (h8:x.kind≠8):nodeT s x k a d=oneP x s a:=by
 unfold nodeT oneP
 rw [if_neg h7,if_neg h8]
 cases oneV x s a spZero <;> rfl
theorem nodeT_turns {s:List UInt8} {x:NdV} {k:Fr} {a d:Nat} (h8:x.kind=8):nodeT s x k a d=turnsS s.length x (endsF s k) a d:=by
 unfold nodeT
 rw [if_neg (by omega),if_pos h8]
theorem nodeT_group {s:List UInt8} {x:NdV} {k:Fr} {a d:Nat} (h7:x.kind=7):nodeT s x k a d=endsF s k a:=by
 unfold nodeT
 rw [if_pos h7]
attribute [local go_sem ↓] zeroNodeR ldNodeR_eq stNodeR_eq
attribute [local go_sem] loadNodeR storeNodeR storeNodeR_if ndA_one_slice gro0 gro1 gro2 gro3 gro4 gro5
set_option maxRecDepth 100000 in
set_option maxHeartbeats 8000000 in
theorem dnode_any {s:List UInt8} {f:Fr} {tb:Nat} (hs:s.length≤900) (hf:f.size≤1000) {x:NdV} {k:Fr} (hx:NdOk x) (hrow:DrowC s f tb k) :
  ∀ (F a d:Nat),fuelT s.length x a d≤F→a≤s.length→d+F≤10000→(0≤x.mx→(d:Int)≤x.mx)→DnodeC s f tb x k a d:=by
 intro F
 induction F with
 | zero=>intro a d h;unfold fuelT at h;omega
 | succ F ih =>
 intro a d hF ha hd9 hdm ow w i ht hn hall
 have hil:=nthF_lt hn
 have hmn:=hx.mn
 have hmx:=hx.mx
 have hcap:capD x d≤1000:=by unfold capD;split <;> omega
 obtain ⟨lb,lo,lc,K,kc,I,ic,hN⟩:=ht.node hn
 have HT:=Lib.hid ht
 have HN:=Lib.hid hn
 have HALL:=Lib.hid hall
 have HX:=Lib.hid hx
 have HROW:=Lib.hid hrow
 have HIH:=Lib.hid ih
 have HIDS:=Lib.hid hN.ids
 have c1:=hN.list
 have il:InHeap lb w:=hN.inh
 obtain ⟨c0,itb⟩:=ht.str
 have itb2:InHeap tb w:=itb
 have hii:(i:Int) < (f.size:Int):=by omega
 have hldG:∀ w',Grows w w'→loadPart Tryz.prog w' 91 lb (lo+i*263) 262=.ok (.agg (ndC x (.slice K k.len kc))) w':=fun w' hg=>node_loadR (ndA_size _ _ _ _ _ _ _) fun j u hu=>by
  have hj:j < 262:=by
   have:=(Array.getElem?_eq_some_iff.1 hu).1
   rwa [ndA_size] at this
  rw [Nat.add_assoc]
  exact cellG (hN.cells j u (by rw [dfA_lt (ndA_size _ _ _ _ _ _ _) hj];exact hu)) hg
 have cI:w.cell? ⟨lb,lo+i*263+262,none⟩=some (.slice I k.len ic):=by
  have:=hN.cells 262 _ (dfA_262 (ndA_size _ _ _ _ _ _ _))
  rwa [← Nat.add_assoc] at this
 clear hN ht hn hall hx hrow ih
 go_enter Tryz.func50,Tryz.ntmps50
 go_upto_region 1 with fail
 go_cut [9,10] (fun v9 v10 wx=>∃ bX,v9=.pointer (some ⟨bX,0,none⟩)∧v10=.slice I k.len ic∧blk wx bX=ndC x (.slice K k.len kc)∧Grows w wx∧w.heap.size≤bX)
 case first =>
  go_region_law (fail)
  all_goals
   go_wp2_with fail
   go_meet
   exact ⟨_,rfl,rfl,(blk_alloc_at _ _ _ _ (by simp)),(by repeat' first | exact Grows.refl _ | refine Grows.alloc ?_ _ | refine Grows.drewN ?_ _ | refine Grows.drew ?_),(by simp)⟩
 case rest =>
  obtain ⟨bX,rfl,rfl,hX,hg,hbX⟩:=hcut
  have hXo:ow bX=0:=by
   rcases Nat.eq_zero_or_pos (ow bX) with h | h
   ·exact h
   ·have:=HT.out.old bX (by omega)
    omega
  have HX1:=Lib.hid (And.intro hX (And.intro hXo hbX))
  have HT1:=Lib.hid (HT.out.grows hg)
  have HG1:=Lib.hid hg
  have c0x:=(Blk.cell hX (ndR_pos _ _) 0).trans (ndA_0 _ _ _ _ _ _ _)
  have c259:=(Blk.cell hX (ndR_pos _ _) 259).trans (ndA_259 _ _ _ _ _ _ _)
  have c260:=(Blk.cell hX (ndR_pos _ _) 260).trans (ndA_260 _ _ _ _ _ _ _)
  have iX:InHeap bX wc:=Blk.inHeap hX (ndR_pos _ _)
  have IDS1:=Lib.hid (HIDS.out.next (ClNext.of_grows ow hg))
  clear hX hg hbX hXo c0 c1 il itb itb2 hldG cI hii HIDS
  by_cases h7:x.kind=7
  ·have b7:((x.kind:Int) == 7)=true:=by simp;omega
   have hcall:=HROW.out ow wc I ic (i+1) a HT1.out IDS1.out HALL.out ha
   rw [← nodeT_group (d:=d) h7] at hcall
   clear h7
   go_wp2_with fail
   (with_reducible refine hcall.mono ?_)
   rintro e9 w2 ⟨ow2,b,rfl,q1,q2,q3,q4,q5⟩
   clear hcall
   go_wp2_with fail
   go_ret
   exact ⟨ow2,b,rfl,q1,q2,q3.imp_right (Nat.le_trans HG1.out.below.size),q4,(DtNext.of_grows f tb ow HG1.out).trans q5⟩
  have b7:((x.kind:Int) == 7)=false:=by simp;omega
  by_cases h8:x.kind=8
  ·have b8:((x.kind:Int) == 8)=true:=by simp;omega
   have b8':((x.kind:Int) != 8)=false:=by simp;omega
   have hcall:=dplace_any hs HT1.out HN.out hf ha hcap (by omega)
   obtain ⟨p0,hp0⟩:∃ z,plcN s x a d=z:=⟨_,rfl⟩
   rw [hp0] at hcall
   have HP0:=Lib.hid hp0
   clear hp0
   have HMX:=Lib.hid (And.intro c259 c260)
   go_wp2_with fail
   (with_reducible refine hcall.mono ?_)
   rintro e9 w2 ⟨ow2,rfl,ht2,hnx2,eb,ec,g,cap,m,ys,hE,hpm,hog,hys⟩
   clear hcall
   have e2:=hE.list
   have ei:=hE.cell
   have hyl:ys.length=m:=by have:=hE.row.1;omega
   obtain ⟨u,hu⟩:∃ u,ys[p0]?=some u:=⟨_,List.getElem?_eq_getElem (by omega)⟩
   obtain ⟨cg,fg⟩:=own_cellX hE.row hu
   obtain ⟨t0,itb⟩:=ht2.str
   have itb2:InHeap tb w2:=itb
   have ieb:InHeap eb w2:=hE.inh
   have ig:InHeap g w2:=World.block_lt_of_cell? _ _ cg
   have hpi:(p0:Int) < (m:Int):=by omega
   have hii:(i:Int) < (f.size:Int):=by omega
   have HT2:=Lib.hid ht2
   have HNX2:=Lib.hid ((DtNext.of_grows f tb ow HG1.out).trans hnx2)
   have HX2:Hid (blk w2 bX=ndC x (.slice K k.len kc)∧ow2 bX=0∧w.heap.size≤bX):=Lib.hid ⟨hnx2.blk HX1.out.1 (ndR_pos _ _) (by rw [HX1.out.2.1];exact Nat.zero_le _),(hnx2.cl.same bX (Blk.inHeap HX1.out.1 (ndR_pos _ _))).trans HX1.out.2.1,HX1.out.2.2⟩
   have HLEN:Hid (LenGe w2 tb i (p0+1)):=Lib.hid ⟨eb,_,_,_,_,m,hE.list,hE.cell,hpm⟩
   have HIDS2:=Lib.hid (IDS1.out.next hnx2.cl)
   have hmem:=hys p0 u hu
   have HTN:=Lib.hid (plc_turns (s:=s) (x:=x) (k:=k) (a:=a) (d:=d) ha)
   have HK8:=Lib.hid h8
   have HNT:=Lib.hid (nodeT_turns (s:=s) (k:=k) (a:=a) (d:=d) h8)
   clear c259 c260 c0x iX hE hpm hys hu ht2 hnx2 hyl h7 h8
   rcases hmem with rfl | ⟨bm,rfl,ho,hb⟩
   ·have hmk:=make_bools s.length (by omega) w2
    have hb1:blk (w2.alloc (.cells (BA (s.length+1) fun _=>false) 4)) w2.heap.size=BA (s.length+1) fun _=>false:=blk_alloc_at _ _ _ _ rfl
    have i1:InHeap w2.heap.size (w2.alloc (.cells (BA (s.length+1) fun _=>false) 4)):=Blk.inHeap hb1 (ba_pos _ _)
    have hf1:∀ k,(w2.alloc (.cells (BA (s.length+1) fun _=>false) 4)).frozen? ⟨w2.heap.size,k,none⟩=false:=fun k=>Blk.free hb1 (ba_pos _ _) k
    have h0c:=(Blk.cell hb1 (ba_pos _ _) a).trans (BA_get (by omega))
    have hai:(a:Int) < (s.length:Int)+1:=by omega
    have c259:=(Blk.cell HX2.out.1 (ndR_pos _ _) 259).trans (ndA_259 _ _ _ _ _ _ _)
    have c260:=(Blk.cell HX2.out.1 (ndR_pos _ _) 260).trans (ndA_260 _ _ _ _ _ _ _)
    have iX:InHeap bX w2:=Blk.inHeap HX2.out.1 (ndR_pos _ _)
    have hfin:(BA (s.length+1) fun _=>false).setIfInBounds a (.bool (decide (x.mn≤d)))=BA (s.length+1) (turnTo s x k a d a):=(BA_set a _).trans (BA_ext fun j _=>by
     rw [turnTo_start]
     by_cases h:j=a
     ·rw [if_pos h,decide_eq_true h,Bool.and_true]
     ·rw [if_neg h,decide_eq_false h,Bool.and_false])
    have HFIN:=Lib.hid hfin
    clear hfin
    go_upto_region 11 with fail
    rw [HFIN.out]
    have hg3:Grows w2 (w2.alloc (.cells (BA (s.length+1) (turnTo s x k a d a)) 4)):=(Grows.refl _).alloc _
    have hb3:blk (w2.alloc (.cells (BA (s.length+1) (turnTo s x k a d a)) 4)) w2.heap.size=BA (s.length+1) (turnTo s x k a d a):=blk_alloc_at _ _ _ _ rfl
    obtain ⟨bO,hbO⟩:∃ z,z=w2.heap.size:=⟨_,rfl⟩
    have hO0:ow2 bO=0:=by
     rcases Nat.eq_zero_or_pos (ow2 bO) with h | h
     ·exact h
     ·have:=HT2.out.old bO (by omega)
      omega
    have hXO:bX≠bO:=by have:=Blk.inHeap HX2.out.1 (ndR_pos _ _);unfold InHeap at this;omega
    have hwO:w.heap.size≤bO:=by have:=HNX2.out.cl.chg.size;omega
    rw [← hbO] at hb3 ⊢
    generalize w2.alloc (.cells (BA (s.length+1) (turnTo s x k a d a)) 4)=w3 at *
    have HO:=Lib.hid (And.intro hO0 (And.intro hXO hwO))
    have HB3:=Lib.hid hb3
    have HT3:=Lib.hid (HT2.out.grows hg3)
    have HNX3:=Lib.hid (HNX2.out.trans (DtNext.of_grows f tb ow2 hg3))
    have HX3:Hid (blk w3 bX=ndC x (.slice K k.len kc)∧ow2 bX=0∧w.heap.size≤bX):=Lib.hid ⟨blkG HX2.out.1 (ndR_pos _ _) hg3,HX2.out.2⟩
    have HIDS3:=Lib.hid (HIDS2.out.next (ClNext.of_grows ow2 hg3))
    clear HFIN hmk hb1 i1 hf1 h0c c259 c260 iX e2 ei cg fg t0 itb itb2 ieb ig HT2 HNX2 HX2 hO0 hXO hwO hbO hb3
    have c259:=(Blk.cell HX3.out.1 (ndR_pos _ _) 259).trans (ndA_259 _ _ _ _ _ _ _)
    have c260:=(Blk.cell HX3.out.1 (ndR_pos _ _) 260).trans (ndA_260 _ _ _ _ _ _ _)
    have iX:InHeap bX w3:=Blk.inHeap HX3.out.1 (ndR_pos _ _)
    have HLEN3:Hid (LenGe w3 tb i (p0+1)):=Lib.hid (LenUp.of_grows f tb hg3 i _ HN.out _ HLEN.out)
    clear hg3 HLEN hmn hmx
    obtain ⟨T,hT⟩:∃ z,decide (¬ (0≤x.mx∧x.mx≤d))=z:=⟨_,rfl⟩
    go_cut [93] (fun v93 wx=>v93=.bool T∧wx=w3)
    case first =>
     by_cases hx:x.mx < 0
     ·have hm1:decide (x.mx < 0)=true:=decide_eq_true hx
      have hTt:T=true:=by rw [← hT,decide_eq_true_eq];omega
      clear hT
      go_wp2_with fail
      go_meet
      exact ⟨by rw [hTt],rfl⟩
     ·have hm1:decide (x.mx < 0)=false:=decide_eq_false hx
      by_cases hy:(d:Int) < x.mx
      ·have hm2:decide ((d:Int) < x.mx)=true:=decide_eq_true hy
       have hTt:T=true:=by rw [← hT,decide_eq_true_eq];omega
       clear hT
       go_wp2_with fail
       go_meet
       exact ⟨by rw [hTt],rfl⟩
      ·have hm2:decide ((d:Int) < x.mx)=false:=decide_eq_false hy
       have hTt:T=false:=by rw [← hT,decide_eq_false_iff_not];omega
       clear hT
       go_wp2_with fail
       go_meet
       exact ⟨by rw [hTt],rfl⟩
    case rest =>
    obtain ⟨rfl,rfl⟩:=hcut
    have HTT:=Lib.hid hT
    clear hT c259 c260 iX
    go_upto_if 93 with fail
    go_cut [13,14] (fun _ _ wx=>∃ ow5,ow5 bO=0∧blk wx bO=BA (s.length+1) (turnsS s.length x (endsF s k) a d)∧DtAt s f tb ow5 wx∧DtNext f tb ow ow5 w wx∧LenGe wx tb i (p0+1))
    case first =>
     cases T with
     | false =>
      have hm:0≤x.mx∧x.mx≤d:=by have:=HTT.out;rw [decide_eq_false_iff_not] at this;omega
      have HM:=Lib.hid hm
      clear hm
      go_wp2_with fail
      go_meet
      exact ⟨ow2,HO.out.1,by rw [HB3.out];exact BA_ext fun j _=>turnTo_none ha HM.out j,HT3.out,HNX3.out,HLEN3.out⟩
     | true =>
      have hm:¬ (0≤x.mx∧x.mx≤d):=by have:=HTT.out;rwa [decide_eq_true_eq] at this
      have HM:=Lib.hid hm
      have hcall:=HROW.out ow2 wc I ic (i+1) a HT3.out HIDS3.out HALL.out ha
      clear hm
      go_wp2_with fail
      (with_reducible refine hcall.mono ?_)
      rintro e9 w4 ⟨ow4,bL,rfl,hL,ho4,hf4,ht4,hnx4⟩
      have hO4:ow4 bO=0:=(hnx4.cl.same bO (Blk.inHeap HB3.out (ba_pos _ _))).trans HO.out.1
      have hX4:ow4 bX=0:=(hnx4.cl.same bX (Blk.inHeap HX3.out.1 (ndR_pos _ _))).trans HX3.out.2.1
      have hbO4:=hnx4.blk HB3.out (ba_pos _ _) (by rw [HO.out.1];exact Nat.zero_le _)
      have hbX4:=hnx4.blk HX3.out.1 (ndR_pos _ _) (by rw [HX3.out.2.1];exact Nat.zero_le _)
      have hLO:bL≠bO:=fun e=>by
       have:=Blk.inHeap HB3.out (ba_pos _ _)
       unfold InHeap at this
       rcases hf4 with h | h
       ·rw [e,hO4] at h;omega
       ·omega
      have HS4:Hid (_∧_∧_∧_∧_∧_∧_∧_∧_):=Lib.hid ⟨hO4,hX4,ho4,hbO4,hbX4,hL,ht4,HNX3.out.trans hnx4,hnx4.len i _ HN.out _ HLEN3.out⟩
      have HLO:=Lib.hid hLO
      clear hcall hL ho4 hf4 ht4 hnx4 hO4 hX4 hbO4 hbX4 hLO
      go_wp2_with fail
      go_loopg [14] (s.length+2 - a) (fun q v14 wr=>∃ (j:Nat) (ow6:Nat→Nat),q+j=s.length+2∧a≤j∧j≤s.length+1∧v14=.int .i64 j∧ow6 bO=0∧ow6 bX=0∧ow6 bL≤1∧blk wr bO=BA (s.length+1) (turnTo s x k a d j)∧blk wr bX=ndC x (.slice K k.len kc)∧blk wr bL=BA (s.length+1) (endsF s k a)∧DtAt s f tb ow6 wr∧DtNext f tb ow ow6 w wr∧LenGe wr tb i (p0+1))
      case atStart =>
       obtain ⟨s1,s2,s3,s4,s5,s6,s7,s8,s9⟩:=HS4.out
       exact ⟨a,ow4,by omega,Nat.le_refl _,by omega,rfl,s1,s2,s3,s4,s5,s6,s7,s8,s9⟩
      case round =>
       obtain ⟨j,ow6,hq,haj,hj9,rfl,s1,s2,s3,s4,s5,s6,s7,s8,s9⟩:=hrel
       obtain ⟨c0,itb⟩:=s7.str
       have itb2:InHeap tb wr:=itb
       have HQ:=Lib.hid hq
       have c259:=(Blk.cell s5 (ndR_pos _ _) 259).trans (ndA_259 _ _ _ _ _ _ _)
       have iX:InHeap bX wr:=Blk.inHeap s5 (ndR_pos _ _)
       have iL:=Blk.inHeap s6 (ba_pos _ _)
       have HS6:Hid (_∧_∧_∧_∧_∧_∧_∧_∧_):=Lib.hid ⟨s1,s2,s3,s4,s5,s6,s7,s8,s9⟩
       by_cases hj:j≤s.length
       ·have hji:(j:Int)≤(s.length:Int):=by omega
        have hji2:(j:Int) < (s.length:Int)+1:=by omega
        have cL:=(Blk.cell s6 (ba_pos _ _) j).trans (BA_get (by omega))
        obtain ⟨lv,hlv⟩:∃ z,endsF s k a j=z:=⟨_,rfl⟩
        rw [hlv] at cL
        have HLV:=Lib.hid hlv
        have HSU:=Lib.hid (fun q=>turnTo_succ s x k a d j q haj)
        obtain ⟨wy,hwy⟩:∃ z,z=wr:=⟨_,rfl⟩
        subst hwy
        clear hq s1 s2 s3 s4 s5 s6 s7 s8 s9 hlv
        go_upto_region 16 with fail
        obtain ⟨Z,hZ⟩:∃ z,(lv && (decide (a < j) || decide (d < x.mn)))=z:=⟨_,rfl⟩
        go_cut [123] (fun v123 wx=>v123=.bool Z∧wx=wy)
        case first =>
         cases lv with
         | false =>
          have hz:Z=false:=by rw [← hZ];rfl
          clear hZ
          go_wp2_with fail
          go_meet
          exact ⟨by rw [hz],rfl⟩
         | true =>
          by_cases hd:x.mn≤d
          ·have hdb:decide (x.mn≤d)=true:=decide_eq_true hd
           have hdi:(x.mn:Int)≤(d:Int):=by omega
           by_cases hja:j=a
           ·have e0:((j:Int) == (a:Int))=true:=by simp;omega
            have hz:Z=false:=by rw [← hZ,decide_eq_false (show ¬ a < j by omega),decide_eq_false (show ¬ d < x.mn by omega)];rfl
            clear hZ hja
            go_wp2_with fail
            go_meet
            exact ⟨by rw [hz],rfl⟩
           ·have e0:((j:Int) == (a:Int))=false:=by simp;omega
            have hz:Z=true:=by rw [← hZ,decide_eq_true (show a < j by omega)];rfl
            clear hZ
            go_wp2_with fail
            go_meet
            exact ⟨by rw [hz],rfl⟩
          ·have hdb:decide (x.mn≤d)=false:=decide_eq_false hd
           have hdi:¬ (x.mn:Int)≤(d:Int):=by omega
           have hz:Z=true:=by rw [← hZ,decide_eq_true (show d < x.mn by omega),Bool.or_true];rfl
           clear hZ
           go_wp2_with fail
           go_meet
           exact ⟨by rw [hz],rfl⟩
        case rest =>
        obtain ⟨rfl,rfl⟩:=hcut
        have HZ:=Lib.hid hZ
        clear hZ c259 iX iL cL
        cases Z with
        | false =>
         go_wp2_with fail
         go_roundg (gk - 1)
         case measure=>have:=HQ.out;omega
         case rel =>
          obtain ⟨s1,s2,s3,s4,s5,s6,s7,s8,s9⟩:=HS6.out
          exact ⟨j+1,ow6,by have:=HQ.out;omega,by omega,by omega,by go_num,s1,s2,s3,by rw [s4];exact BA_ext fun q _=>by rw [HSU.out,HLV.out,HZ.out,Bool.false_and,Bool.or_false],s5,s6,s7,s8,s9⟩
        | true =>
         obtain ⟨hl1,hl2⟩:lv=true∧(a < j∨d < x.mn):=by
          have:=HZ.out
          rw [Bool.and_eq_true,Bool.or_eq_true,decide_eq_true_eq,decide_eq_true_eq] at this
          exact this
         have hcall:=HIH.out j (d+1) (fuel_turn hF HM.out (by omega) hj) hj (by omega) (fun h=>by have:=HM.out;omega) ow6 wc i HS6.out.2.2.2.2.2.2.1 HN.out HALL.out
         rw [show ((d+1:Nat):Int)=(d:Int)+1 by omega] at hcall
         go_wp2_with fail
         (with_reducible refine hcall.mono ?_)
         rintro e9 w7 ⟨ow7,bR,rfl,hR,ho7,hf7,ht7,hnx7⟩
         obtain ⟨s1,s2,s3,s4,s5,s6,s7,s8,s9⟩:=HS6.out
         have hO7:ow7 bO=0:=(hnx7.cl.same bO (Blk.inHeap s4 (ba_pos _ _))).trans s1
         have hX7:ow7 bX=0:=(hnx7.cl.same bX (Blk.inHeap s5 (ndR_pos _ _))).trans s2
         have hL7:ow7 bL≤1:=by rw [hnx7.cl.same bL (Blk.inHeap s6 (ba_pos _ _))];exact s3
         have hbO7:=hnx7.blk s4 (ba_pos _ _) (by rw [s1];exact Nat.zero_le _)
         have hbX7:=hnx7.blk s5 (ndR_pos _ _) (by rw [s2];exact Nat.zero_le _)
         have hbL7:=hnx7.blk s6 (ba_pos _ _) s3
         have hneR:bR≠bO:=fun e=>by
          have:=Blk.inHeap s4 (ba_pos _ _)
          unfold InHeap at this
          rcases hf7 with h | h
          ·rw [e,hO7] at h;omega
          ·omega
         have hlen7:=hnx7.len i _ HN.out _ s9
         rw [nodeT_turns HK8.out] at hR
         have hjoin:=djoin_any (ca:=s.length+1) (cb:=s.length+1) hbO7 hR hneR (by omega)
         have HS7:Hid (_∧_∧_∧_∧_∧_∧_∧_∧_):=Lib.hid ⟨hO7,hX7,hL7,hbO7,hbX7,hbL7,ht7,s8.trans hnx7,hlen7⟩
         clear hcall hR ho7 hf7 ht7 hnx7 hO7 hX7 hL7 hbO7 hbX7 hbL7 hneR hlen7 s1 s2 s3 s4 s5 s6 s7 s8 s9 c0 itb itb2
         go_wp2_with fail
         (with_reducible refine hjoin.mono ?_)
         rintro e9 w8 ⟨rfl,hjn,hc8⟩
         clear hjoin
         go_wp2_with fail
         go_roundg (gk - 1)
         case measure=>have:=HQ.out;omega
         case rel =>
          obtain ⟨s1,s2,s3,s4,s5,s6,s7,s8,s9⟩:=HS7.out
          have hq:∀ b,b=bO→ow7 b=0:=fun b e=>by rw [e];exact s1
          exact ⟨j+1,ow7,by have:=HQ.out;omega,by omega,by omega,by go_num,s1,s2,s3,by rw [hjn];exact BA_ext fun q _=>by rw [HSU.out,HLV.out,HZ.out,Bool.true_and],(chg_blk hc8 (Blk.inHeap s5 (ndR_pos _ _)) HO.out.2.1).trans s5,(chg_blk hc8 (Blk.inHeap s6 (ba_pos _ _)) HLO.out).trans s6,s7.chg hc8 hq,s8.own s7 hc8 (fun b e=>by rw [e];exact HO.out.2.2) hq,s7.lenChg hc8 hq i _ HN.out _ s9⟩
       ·have hji:¬ (j:Int)≤(s.length:Int):=by omega
        have hin:decide (j≤s.length)=false:=decide_eq_false hj
        obtain rfl:j=s.length+1:=by omega
        clear hq s1 s2 s3 s4 s5 s6 s7 s8 s9 c259 iX iL
        go_wp2_with fail
        go_meet
        obtain ⟨s1,s2,s3,s4,s5,s6,s7,s8,s9⟩:=HS6.out
        exact ⟨ow6,s1,by rw [s4];exact BA_ext fun q _=>turnTo_all ha HM.out q,s7,s8,s9⟩
    case rest =>
     obtain ⟨ow5,hO5,hB5,hT5,hN5,hL5⟩:=hcut
     obtain ⟨eb2,ec2,v2,m2,ys2,hE2,hv2,hys2⟩:=hT5.ends HN.out
     have hm2:=hE2.ge hL5
     obtain ⟨g2,cap2,rfl,-,-,-,-⟩:∃ g cap,v2=.slice (some ⟨g,0,none⟩) m2 cap∧0≤g∧g < wc.heap.size∧m2≤cap∧cap≤9223372036854775807:=(own_formX hE2.row).resolve_left fun h=>by omega
     have hyl:ys2.length=m2:=by have:=hE2.row.1;omega
     obtain ⟨u2,hu2⟩:∃ u,ys2[p0]?=some u:=⟨_,List.getElem?_eq_getElem (by omega)⟩
     obtain ⟨cg,fg⟩:=own_cellX hE2.row hu2
     have hg3:=hv2 g2 rfl
     rw [← HTN.out,HP0.out] at hB5
     obtain ⟨p1,p2⟩:=hT5.putMemo HN.out hE2 (show p0 < m2 by omega) hO5 hB5 hg3
     have e2:=hE2.list
     have ei:=hE2.cell
     have itb:InHeap tb wc:=World.block_lt_of_cell? _ _ e2
     have ieb:InHeap eb2 wc:=hE2.inh
     have ig:InHeap g2 wc:=World.block_lt_of_cell? _ _ cg
     have hpi:(p0:Int) < (m2:Int):=by omega
     have hgO:bO≠g2:=fun e=>by rw [e] at hO5;omega
     have hfin:blk (wc.setCell ⟨g2,p0,none⟩ (.slice (some ⟨bO,0,none⟩) (s.length+1) (s.length+1))) bO=BA (s.length+1) (nodeT s x k a d):=by
      rw [chg_blk (chg_cell wc g2 p0 _) (Blk.inHeap hB5 (ba_pos _ _)) hgO,hB5,HP0.out.symm,HTN.out,HNT.out]
     have HFIN:Hid (_∧_∧_):=Lib.hid ⟨hfin,p1,hN5.memo (chg_cell wc g2 p0 _) (by omega) HO.out.2.2 p2⟩
     clear hE2 hv2 hys2 hT5 hN5 hL5 hfin p1 p2 hB5 hu2 hyl
     go_wp2_with fail
     go_ret
     exact ⟨fun b=>if b=bO then 1 else ow5 b,bO,rfl,HFIN.out.1,by show (if bO=bO then 1 else ow5 bO)≤1;rw [if_pos rfl];exact Nat.le_refl _,.inl (if_pos rfl),HFIN.out.2.1,HFIN.out.2.2⟩
   ·rw [← HP0.out,HTN.out,← HNT.out] at hb
    have HBM:=Lib.hid (And.intro ho hb)
    clear ho hb
    go_wp2_with fail
    go_ret
    exact ⟨ow2,bm,rfl,HBM.out.2,by rw [HBM.out.1];exact Nat.le_refl _,.inl HBM.out.1,HT2.out,HNX2.out⟩
  ·have b8:((x.kind:Int) == 8)=false:=by simp;omega
   have b8':((x.kind:Int) != 8)=true:=by simp;omega
   have hld:loadPart Tryz.prog wc 91 bX 0 262=.ok (.agg (ndC x (.slice K k.len kc))) wc:=node_loadR (ndA_size _ _ _ _ _ _ _) fun j u hu=>by rw [Nat.zero_add];exact (Blk.cell HX1.out.1 (ndR_pos _ _) j).trans hu
   have hcall:=dplain_any (s:=s) (by omega) x K k.len kc a tb wc HT1.out.str.1 ha (fun _=>HX.out.n)
   rw [← nodeT_plain (k:=k) (d:=d) h7 h8] at hcall
   clear h7 h8
   go_wp2_with fail
   (with_reducible refine hcall.mono ?_)
   rintro e9 w2 ⟨b,rfl,q1,q2,q3⟩
   clear hcall hld
   have hbo:ow b=0:=by
    rcases Nat.eq_zero_or_pos (ow b) with h | h
    ·exact h
    ·have:=HT1.out.old b (by omega)
     omega
   go_wp2_with fail
   go_ret
   exact ⟨ow,b,rfl,q2,by omega,.inr (Nat.le_trans HG1.out.below.size q1),HT1.out.grows q3,DtNext.of_grows f tb ow (HG1.out.trans q3)⟩
end Go.Proofs.YtnjagecmhdagkaaGreatDoor
