/-
 Several texts of the proof: ClsParse, BreOpen, BreGroup.
-/
import Derived.Test.YtnjagecmhdagkaaGreatDoorPk07
import Derived.Test.YtnjagecmhdagkaaGreatDoorPk10
import Derived.Deep.AppendLies
import Derived.IntWalk
set_option linter.unusedSimpArgs false
set_option linter.unusedVariables false
set_option maxRecDepth 3000
/-
  Classes: Parse, walked.
-/
namespace Go.Proofs.YtnjagecmhdagkaaGreatDoor
open Go.RowKit
attribute [local go_sem] tx_bt tx_from
attribute [local go_sem ↓] zero22
theorem SA_getElem (p:Nat→Bool) (j:Nat) (h:j < (SA p).size):(SA p)[j]'h=.bool (p j):=by simp [SA]
attribute [local go_sem] SA_getElem
def flipTo (p:Nat→Bool) (nt:Bool) (j:Nat):Nat→Bool:=fun c=>if c < j then p c != nt else p c
theorem flip_zero (p:Nat→Bool) (nt:Bool):SA (flipTo p nt 0)=SA p:=SA_ext fun c _=>by simp [flipTo]
theorem flip_at (p:Nat→Bool) (nt:Bool) (j:Nat):flipTo p nt j j=p j:=by simp [flipTo]
theorem flip_set (p:Nat→Bool) (nt:Bool) (j:Nat):(SA (flipTo p nt j)).setIfInBounds j (.bool (p j != nt))=SA (flipTo p nt (j+1)):=by
 rw [set_SA]
 refine SA_ext fun c _=>?_
 unfold flipTo
 by_cases h:c=j
 ·subst h;simp
 ·by_cases h2:c < j
  ·rw [if_neg h,if_pos h2,if_pos (by omega)]
  ·rw [if_neg h,if_neg h2,if_neg (by omega)]
theorem flip_put (p:Nat→Bool) (nt:Bool) (j:Nat) (d:Bool) (h:(p j != nt)=d):(SA (flipTo p nt j)).setIfInBounds j (.bool d)=SA (flipTo p nt (j+1)):=by rw [← h];exact flip_set p nt j
theorem flip_end (p:Nat→Bool) (nt:Bool) (j:Nat) (h:256≤j):SA (flipTo p nt j)=SA fun c=>p c != nt:=SA_ext fun c hc=>by
 unfold flipTo;rw [if_pos (by omega)]
theorem mk_tx (l:List UInt8):(⟨l.toArray⟩:ByteArray)=tx l:=rfl
theorem lit_data (a:Array UInt8):(ByteArray.mk a).data.toList=a.toList:=rfl
def ParsePost (r:(Nat→Bool) × Int × Int) (w:World) (e:Ending) (w':World):Prop:=e=.returned (.tuple #[.agg (SA r.1),.int .i64 r.2.1,.int .i64 r.2.2])∧Grows w w'
set_option maxRecDepth 100000 in
set_option maxHeartbeats 4000000 in
theorem parse_any (s:List UInt8) (at_:Int) (w:World) (hl:s.length≤1000000) (hs:Sane w) (ha:I64 at_):Calls Tryz.prog 55 #[.string (tx s),.int .i64 at_] w (ParsePost (parseA s at_) w):=by
 obtain ⟨ha1,ha2⟩:=ha
 go_enter Tryz.func55,Tryz.ntmps55
 by_cases h0:at_ < 0
 ·have hA:=parseA_none (s:=s) (at_:=at_) (by omega)
  have HA:=Lib.hid hA
  clear hA
  go_wp2_with fail
  exact bodyPost_ret (v:=.tuple #[.agg (SA fun _=>false),.int .i64 0,.int .i64 90]) (by simp [results,Tryz.results55,go_sem]) rfl ⟨by rw [HA.out],(Grows.refl _).alloc _⟩
 by_cases h1:(s.length:Int)≤at_
 ·have hA:=parseA_none (s:=s) (at_:=at_) (by omega)
  have HA:=Lib.hid hA
  clear hA
  go_wp2_with fail
  exact bodyPost_ret (v:=.tuple #[.agg (SA fun _=>false),.int .i64 0,.int .i64 90]) (by simp [results,Tryz.results55,go_sem]) rfl ⟨by rw [HA.out],(Grows.refl _).alloc _⟩
 obtain ⟨k,rfl⟩:∃ k:Nat,at_=k:=⟨at_.toNat,by omega⟩
 have hk:k < s.length:=by omega
 have hA:=parseA_in hk
 have hx:(tx s).extract k s.length=tx (s.drop k):=tx_from s k
 have hkl:(k:Int)≤(s.length:Int):=by omega
 have hdl:(s.drop k).length=s.length - k:=by simp
 generalize hT:s.drop k=t at *
 have HA0:=Lib.hid hA
 clear hA
 go_wp2_with fail
 (with_reducible refine (Tryz.strings_CutPrefix _ _ _).mono ?_)
 rw [tx_data,lit_data,trimPrefix_one,hasPrefix_one]
 rintro e w1 ⟨rfl,rfl⟩
 by_cases h2:t.head?=some 91
 ·rw [if_pos h2,show decide (t.head?=some 91)=true from by simpa using h2,mk_tx]
  obtain ⟨u,hu⟩:∃ u,t.drop 1=u:=⟨_,rfl⟩
  rw [hu]
  go_wp2_with fail
  (with_reducible refine (Tryz.strings_CutPrefix _ _ _).mono ?_)
  rw [tx_data,lit_data,trimPrefix_one,hasPrefix_one]
  rintro e w1 ⟨rfl,rfl⟩
  obtain ⟨r,nt,hr1,hr2,hrl,hP⟩:∃ (r:List UInt8) (nt:Bool),(if u.head?=some 94 then u.drop 1 else u)=r∧decide (u.head?=some 94)=nt∧r.length≤t.length∧parseV t=(loopF true (fun _=>false) r).map fun x=>(fun c=>x.1 c != nt,t.length - x.2.length+1):=by
   subst hu
   by_cases h3:(t.drop 1).head?=some 94
   ·refine ⟨t.drop 2,true,by rw [if_pos h3,List.drop_drop],by simpa using h3,by simp,?_⟩
    unfold parseV;rw [if_pos h2,if_pos h3]
   ·refine ⟨t.drop 1,false,by rw [if_neg h3],by simpa using h3,by simp,?_⟩
    unfold parseV;rw [if_pos h2,if_neg h3]
  rw [hr1,hr2,mk_tx]
  have hA:=HA0.out
  rw [hP] at hA
  have HA:=Lib.hid hA
  clear hA HA0 hP hr1 hr2 h2 hT hu
  go_wp2_with fail
  go_loopg [7,10,11,12,13] (r.length+1) (fun q v7 v10 _ _ _ wr=>∃ (rest:List UInt8) (f:Bool) (p:Nat→Bool) (m:More),q=rest.length+1∧rest.length≤r.length∧v7=.string (tx rest)∧v10=.bool f∧loopF true (fun _=>false) r=loopF f p rest∧wr=more (w.alloc (.cells (SA p) 89)) m)
  case atStart=>exact ⟨r,true,fun _=>false,_,rfl,by omega,rfl,rfl,rfl,more_self _⟩
  case round =>
   obtain ⟨rest,f,p,m,hq,hrl2,rfl,rfl,hF,rfl⟩:=hrel
   have HQ:=Lib.hid hq
   have HF:=Lib.hid hF
   clear hq hF
   have hS:Sane (more (w.alloc (.cells (SA p) 89)) m):=hs.grows (by repeat' first | exact Grows.refl _ | refine Grows.more ?_ _ | refine Grows.alloc ?_ _ | refine Grows.drew ?_)
   have HS:=Lib.hid hS
   clear hS
   by_cases hstop:f=false∧rest.head?=some 93
   ·obtain ⟨rfl,hh⟩:=hstop
    go_wp2_with fail
    (with_reducible refine (Tryz.strings_HasPrefix _ _ _).mono ?_)
    rw [tx_data,lit_data,hasPrefix_one,show decide (rest.head?=some 93)=true from by simpa using hh]
    rintro e w1 ⟨rfl,rfl⟩
    have hF2:=HF.out
    rw [loopF_end p rest hh] at hF2
    have hA:=HA.out
    rw [hF2] at hA
    simp only [Option.map_some] at hA
    have HA2:=Lib.hid hA
    clear hF2 hA HA HF hh
    go_wp2_with fail
    go_loopg [57,14] 256 (fun q v57 _ wr=>∃ j:Nat,q+j=256∧v57=.int .i64 j∧wr=more (w.alloc (.cells (SA (flipTo p nt j)) 89)) m)
    case atStart=>exact ⟨0,by omega,rfl,by rw [flip_zero]⟩
    case round =>
     obtain ⟨j,hq2,rfl,rfl⟩:=hrel
     have HQ2:=Lib.hid hq2
     clear hq2
     by_cases h3:j < 256
     ·have j0:(0:Int)≤(j:Int):=by omega
      have j1:(j:Int) < 256:=by omega
      have hfj:=flip_at p nt j
      obtain ⟨d,hd⟩:∃ d,p j=d:=⟨_,rfl⟩
      rw [hd] at hfj
      cases d <;> cases nt
      ·have hfs:=flip_put p false j false (by rw [hd];rfl)
       clear hd
       go_wp2_with fail
       go_roundg (gk - 1)
       case measure=>have:=HQ2.out;omega
       case rel=>exact ⟨j+1,by have:=HQ2.out;omega,by go_num,rfl⟩
      ·have hfs:=flip_put p true j true (by rw [hd];rfl)
       clear hd
       go_wp2_with fail
       go_roundg (gk - 1)
       case measure=>have:=HQ2.out;omega
       case rel=>exact ⟨j+1,by have:=HQ2.out;omega,by go_num,rfl⟩
      ·have hfs:=flip_put p false j true (by rw [hd];rfl)
       clear hd
       go_wp2_with fail
       go_roundg (gk - 1)
       case measure=>have:=HQ2.out;omega
       case rel=>exact ⟨j+1,by have:=HQ2.out;omega,by go_num,rfl⟩
      ·have hfs:=flip_put p true j false (by rw [hd];rfl)
       clear hd
       go_wp2_with fail
       go_roundg (gk - 1)
       case measure=>have:=HQ2.out;omega
       case rel=>exact ⟨j+1,by have:=HQ2.out;omega,by go_num,rfl⟩
     ·have hfe:=flip_end p nt j (by omega)
      have hrl3:(rest.length:Int)≤s.length:=by omega
      have hsub:((t.length - rest.length+1:Nat):Int)+k=s.length - rest.length+1:=by omega
      have HSUB:=Lib.hid hsub
      clear hsub
      go_wp2_with fail
      exact bodyPost_ret (v:=.tuple #[.agg (SA fun c=>p c != nt),.int .i64 ((s.length:Int) - rest.length+1),.int .i64 0]) (by simp [results,Tryz.results55,go_sem]) rfl ⟨by rw [HA2.out,← HSUB.out,Int.add_comm],(by repeat' first | exact Grows.refl _ | refine Grows.more ?_ _ | refine Grows.alloc ?_ _ | refine Grows.drew ?_)⟩
   ·have HL1:Hid (partV rest=none→loopF true (fun _=>false) r=none):=Lib.hid fun h=>by rw [HF.out];exact loopF_none hstop h
    have HL2:Hid (∀ x,partV rest=some x→loopF true (fun _=>false) r=loopF false (fun c=>p c || x.1 c) x.2):=Lib.hid fun x h=>by rw [HF.out];exact loopF_next hstop h
    clear HF
    cases f
    case' false =>
     have hh:¬rest.head?=some 93:=fun h=>hstop ⟨rfl,h⟩
     go_wp2_with fail
     (with_reducible refine (Tryz.strings_HasPrefix _ _ _).mono ?_)
     rw [tx_data,lit_data,hasPrefix_one,show decide (rest.head?=some 93)=false from by simpa using hh]
     rintro e w1 ⟨rfl,rfl⟩
    all_goals
     go_wp2_with fail
     (with_reducible refine (part_any rest _ (by omega) HS.out).mono ?_)
     rintro e w1 ⟨v,r',b,rfl,hb,hv,m1,rfl⟩
     cases hpv:partV rest with
     | none =>
      rw [hpv] at hb
      have hA:=HA.out
      rw [HL1.out hpv] at hA
      simp only [Option.isSome_none] at hb
      simp only [Option.map_none] at hA
      subst hb
      have HA2:=Lib.hid hA
      clear hv hA HA HL1 HL2
      go_wp2_with fail
      exact bodyPost_ret (v:=.tuple #[.agg (SA fun _=>false),.int .i64 0,.int .i64 90]) (by simp [results,Tryz.results55,go_sem]) rfl ⟨by rw [HA2.out],(by repeat' first | exact Grows.refl _ | refine Grows.more ?_ _ | refine Grows.alloc ?_ _ | refine Grows.drew ?_)⟩
     | some x =>
      rw [hpv] at hb
      obtain ⟨rfl,ht⟩:=hv x hpv
      have hF2:=HL2.out x hpv
      have HF2:=Lib.hid hF2
      have hxl:=partV_len hpv
      simp only [Option.isSome_some] at hb
      subst hb
      clear hv hF2 HL1 HL2 hpv
      have hblk:blk (more (more (w.alloc (.cells (SA p) 89)) m) m1) w.heap.size=SA p:=by simp [go_sem]
      go_wp2_with fail
      (with_reducible refine (add_any w.heap.size _ p v x.1 _ hblk (by simp;omega) ht).mono ?_)
      rintro e w2 ⟨rfl,m2,rfl⟩
      simp only [more_more,setBlk_more (w.alloc (.cells (SA p) 89)) _ (SA fun c=>p c || x.1 c) w.heap.size (by simp [go_sem]),setBlk_alloc_at w (SA p) (SA fun c=>p c || x.1 c) 89 w.heap.size rfl]
      go_wp2_with fail
      go_roundg (x.2.length+1)
      case measure=>have:=HQ.out;omega
      case rel=>exact ⟨x.2,false,fun c=>p c || x.1 c,_,rfl,by omega,rfl,rfl,HF2.out,rfl⟩
 ·rw [if_neg h2,show decide (t.head?=some 91)=false from by simpa using h2,mk_tx]
  have hA:=HA0.out
  rw [show parseV t=none by unfold parseV;rw [if_neg h2]] at hA
  simp only [] at hA
  have HA:=Lib.hid hA
  clear hA HA0 h2
  go_wp2_with fail
  exact bodyPost_ret (v:=.tuple #[.agg (SA fun _=>false),.int .i64 0,.int .i64 90]) (by simp [results,Tryz.results55,go_sem]) rfl ⟨by rw [HA.out],(Grows.refl _).alloc _⟩
end Go.Proofs.YtnjagecmhdagkaaGreatDoor
namespace Go.Proofs.YtnjagecmhdagkaaGreatDoor
open Go.RowKit
theorem infoInt:(Tryz.prog.info? 3).map (fun i=>(i.zero,i.size,i.bytes))=some (some (.int .i64 0),1,8):=by kernel_rfl
theorem infoInt_parts:∃ i,Tryz.prog.info? 3=some i∧i.zero=some (.int .i64 0)∧i.size=1∧i.bytes=8:=by
 have h:=infoInt
 cases hq:Tryz.prog.info? 3 with
 | none=>rw [hq] at h;cases h
 | some i =>
  rw [hq] at h
  simp only [Option.map_some,Option.some.injEq,Prod.mk.injEq] at h
  exact ⟨i,rfl,h.1,h.2.1,h.2.2⟩
theorem chg_grown {w w':World} {row:Option Nat} (h:w.grownBy w' row):Chg (fun b=>row=some b) w w' :=
 ⟨h.os,h.tape,h.output,h.size,fun b hb hp=>h.block b hb fun e=>hp e.symm⟩
theorem step_append_int {P:Program} {ops:Array Oper} {o:Oper} {a:Act} {K:Act→World→Prop} {Q:Exit→Act→World→Prop} {E:Prop} {w:World} (s x:Operand) (t:TypeId) (base:Nat) (e:TypeId) (i:TypeInfo) (z:Value) (v:Value) (n:Nat) (xs:List Value) (b:Nat) (u0:Value)
  (hgd:o.guard=none) (ho:o.op=.call { callee:=.builtin .append,args:=#[s,x],argTypes:=#[t,t] }) (ht:P.underlying t=some (.slice e)) (hi:P.info? e=some i) (hz:i.zero=some z) (hsize:i.size=1) (hby:i.bytes=8) (hzs:z.cells.size=1)
  (hs:a.eval s=v) (hown:w.ownsRow base e 1 v n xs) (hx:a.eval x=.slice (some ⟨b,0,none⟩) 1 1) (c0:w.cell? ⟨b,0,none⟩=some u0)
  (o1:u0.oneCell'=true) (hn:n≤1000000) (hbase:base≤w.heap.size)
  (h:∀ g cap w',w'.ownsRow base e 1 (.slice (some ⟨g,0,none⟩) (n+1) cap) (n+1) (xs++[u0])→Chg (fun b=>v.ownBlock=some b) w w'→(v.ownBlock=some g∨w.heap.size≤g)→K (a.put o.dst (.slice (some ⟨g,0,none⟩) (n+1) cap)) w') :
  if Region.wanted o (yielded ops a.tmps)=true then Oper.wp P o a w K Q else E:=by
 refine step_append_lies w hgd s x t ho base e i z 1 8 ht hi hz hsize hby hzs (by decide) v n xs hs hown ⟨b,0,none⟩ 1 1 [u0] hx rfl (fun j u hj=>?_) (fun u hu=>?_) (by decide) (by unfold maxLen;omega) (by omega) hbase _ rfl (fun g cap w' a1 a2 a3 _=>h g cap w' a1 (chg_grown a2) (a3.imp id (fun e=>by omega)))
 ·rw [add_off,Nat.zero_add]
  match j,hj with
  | 0,hj=>simp at hj;subst hj;exact c0
  | j+1,hj=>simp at hj
 ·simp at hu
  subst hu;exact o1
theorem own_growsI {w w':World} {base n size:Nat} {e:TypeId} {v:Value} {xs:List Value} (h:w.ownsRow base e size v n xs) (hg:Grows w w'):w'.ownsRow base e size v n xs:=by
 obtain ⟨h1,h2⟩:=h
 refine ⟨h1,h2.elim Or.inl ?_⟩
 rintro ⟨g,cap,cur,hv,hb,hh,r⟩
 obtain ⟨m,rfl⟩:=hg
 exact Or.inr ⟨g,cap,cur,hv,hb,by rw [heap_more w m g (Array.getElem?_eq_some_iff.1 hh).1];exact hh,r⟩
section
variable {base g:Nat} {w w' w2:World} {tv ov:Value} {s:PS}
theorem own_pop {n e cap:Nat} {t:TypeId} {xs:List Value} {u:Value} (h:w.ownsRow base t 1 (.slice (some ⟨e,0,none⟩) (n+1) cap) (n+1) (xs++[u])):w.ownsRow base t 1 (.slice (some ⟨e,0,none⟩) n cap) n xs:=by
 obtain ⟨h1,h2⟩:=h
 have hl:xs.length=n:=by simp at h1;omega
 refine ⟨by omega,.inr ?_⟩
 rcases h2 with ⟨h2,h3⟩ | ⟨g,c,cur,hv,hb,hh,r1,r2,r3,r4⟩
 ·omega
 ·cases hv
  refine ⟨e,cap,cur,rfl,hb,hh,by omega,r2,r3,?_⟩
  have h5:(cur.toList.take ((n+1)*1)).take n=cur.toList.take n:=by rw [List.take_take];congr 1;omega
  have h6:(xs++[u]).take n=xs:=by rw [← hl];exact List.take_left
  rw [r4] at h5
  rw [Nat.mul_one,← h5,h6]
theorem own_form1 {n:Nat} {t:TypeId} {xs:List Value} (h:w.ownsRow base t 1 ov (n+1) xs):∃ e cap,ov=.slice (some ⟨e,0,none⟩) (n+1) cap∧n+1≤cap∧cap≤9223372036854775807∧base≤e∧e < w.heap.size:=by
 rcases h.2 with ⟨h2,h3⟩ | ⟨e,c,cur,hv,hb,hh,r1,r2,r3,r4⟩
 ·omega
 ·exact ⟨e,c,hv,r1,by unfold maxLen at r2;omega,hb,(Array.getElem?_eq_some_iff.1 hh).1⟩
theorem Pa.push {e cap n:Nat} (h:Pa base w g tv ov s) (hown:w2.ownsRow base 3 1 (.slice (some ⟨e,0,none⟩) (s.op.length+1) cap) (s.op.length+1) ((s.op.map fun n:Nat=>Value.int .i64 n)++[.int .i64 n])) (hC:Chg (fun b=>ov.ownBlock=some b) w w2) (hl:ov.ownBlock=some e∨w.heap.size≤e) (hg:s.op.length+1≤s.groups) :
  Pa base (w2.setCell ⟨g,5,none⟩ (.slice (some ⟨e,0,none⟩) (s.op.length+1) cap)) g tv (.slice (some ⟨e,0,none⟩) (s.op.length+1) cap) { s with op:=s.op++[n] }∧StepP (PaK g ov) (PaK g (.slice (some ⟨e,0,none⟩) (s.op.length+1) cap)) w (w2.setCell ⟨g,5,none⟩ (.slice (some ⟨e,0,none⟩) (s.op.length+1) cap)):=by
 have hne:¬ e=g:=by
  rcases hl with h1 | h1
  ·exact fun e1=>h.ne (by rw [h1,e1])
  ·have:=h.inh;unfold InHeap at this;omega
 have hb2:blk w2 g=paC s.left tv s.groups s.parts s.refs ov:=(chg_blk hC h.inh h.ne).trans h.cells
 have hcs:=chg_cell w2 g 5 (.slice (some ⟨e,0,none⟩) (s.op.length+1) cap)
 refine ⟨⟨by rw [pa_put hb2 (paC_pos _ _ _ _ _ _)];rfl,?_,fun e1=>hne (by cases e1;rfl),h.low,h.parts,h.groups,h.left,by simpa using hg⟩,⟨?_,?_⟩⟩
 ·have e1:({ s with op:=s.op++[n] }:PS).op.length=s.op.length+1:=by simp
  rw [e1]
  have e2:(({ s with op:=s.op++[n] }:PS).op.map fun n:Nat=>Value.int .i64 n)=(s.op.map fun n:Nat=>Value.int .i64 n)++[.int .i64 n]:=by simp
  rw [e2]
  obtain ⟨h1,h2⟩:=hown
  refine ⟨h1,h2.elim .inl ?_⟩
  rintro ⟨e',cap',cur,hv,hb,hh,r⟩
  cases hv
  exact .inr ⟨e,cap,cur,rfl,hb,(hcs.block e (Array.getElem?_eq_some_iff.1 hh).1 hne).trans hh,r⟩
 ·exact (hC.mono fun b _ e1=>(.inr e1:PaK g ov b)).trans (hcs.mono fun b _ e1=>.inl e1)
 ·rintro b (rfl | hb)
  ·exact .inl (.inl rfl)
  ·cases hb
   rcases hl with h1 | h1
   ·exact .inl (.inr h1)
   ·exact .inr h1
theorem Pa.pop {e cap n:Nat} {l:List Nat} (h:Pa base w g tv (.slice (some ⟨e,0,none⟩) (l.length+1) cap) s) (hs:s.op=l++[n]) :
  Pa base (w.setCell ⟨g,5,none⟩ (.slice (some ⟨e,0,none⟩) l.length cap)) g tv (.slice (some ⟨e,0,none⟩) l.length cap) { s with op:=l }:=by
 have hcs:=chg_cell w g 5 (.slice (some ⟨e,0,none⟩) l.length cap)
 have hne:¬ e=g:=fun e1=>h.ne (by rw [e1];rfl)
 refine ⟨by rw [pa_put h.cells (paC_pos _ _ _ _ _ _)];rfl,?_,fun e1=>hne (by cases e1;rfl),h.low,h.parts,h.groups,h.left,by have:=h.op;rw [hs] at this;simp at this ⊢;omega⟩
 have ho:=h.own
 rw [hs] at ho
 have ho2:w.ownsRow base 3 1 (.slice (some ⟨e,0,none⟩) (l.length+1) cap) (l.length+1) ((l.map fun n:Nat=>Value.int .i64 n)++[.int .i64 n]):=by simpa using ho
 obtain ⟨h1,h2⟩:=own_pop ho2
 refine ⟨h1,h2.elim .inl ?_⟩
 rintro ⟨e',cap',cur,hv,hb,hh,r⟩
 cases hv
 exact .inr ⟨e,cap,cur,rfl,hb,(hcs.block e (Array.getElem?_eq_some_iff.1 hh).1 hne).trans hh,r⟩
theorem Pa.setGroups (h:Pa base w g tv ov s) (n:Int) (hn:n=(s.groups+1:Nat)) (hp:s.groups+1≤9):Pa base (w.setCell ⟨g,2,none⟩ (.int .i64 n)) g tv ov { s with groups:=s.groups+1 } :=
 h.self (t:={ s with groups:=s.groups+1 }) (chg_cell w g 2 _) (by rw [pa_put h.cells (paC_pos _ _ _ _ _ _),hn];rfl) rfl h.parts hp (Nat.le_succ _) (Nat.le_refl _)
end
def SaneB (base:Nat) (w:World):Prop:=Sane w∧1 < base
theorem SaneB.chg {base:Nat} {w w':World} {q:Nat→Prop} (h:SaneB base w) (hc:Chg q w w') (hq:∀ b,q b→base≤b):SaneB base w':=by
 obtain ⟨⟨m,h1⟩,h2⟩:=h
 exact ⟨⟨m,(hc.cell (a:=⟨1,0,none⟩) (World.block_lt_of_cell? _ _ h1) (fun e=>by have h3:base≤1:=hq _ e;omega)).trans h1⟩,h2⟩
theorem SaneB.grows {base:Nat} {w w':World} (h:SaneB base w) (hg:Grows w w'):SaneB base w':=⟨h.1.grows hg,h.2⟩
def RowSpec (tv:Value) (t:PS):Prop:=∀ (base g:Nat) (ov:Value) (w:World),Pa base w g tv ov t→SaneB base w→Calls Tryz.prog 18 #[.pointer (some ⟨g,0,none⟩)] w (FrPost base g tv ov w (rowF true false t))
end Go.Proofs.YtnjagecmhdagkaaGreatDoor
namespace Go.Proofs.YtnjagecmhdagkaaGreatDoor
open Go.RowKit
attribute [local go_sem ↓] zeroNode bldNd_eq ldNode_eq stNode_eq bldSl_eq
attribute [local go_sem] bld_kind bld_byte bld_set bld_n bld_star bld_times loadNode loadNode_if storeNode storeNode_if ndA_one_slice ndA_0 ndA_258 ndA_261 tx_bt tx_from bldSl_run
section
variable {base g:Nat} {w w' w2:World} {tv ov:Value} {s:PS}
set_option maxHeartbeats 4000000 in
theorem group_of (h:Pa base w g tv ov s) (hsn:SaneB base w) (hrow:∀ t:PS,t.left.length≤s.left.length→RowSpec tv t) :
  Calls Tryz.prog 84 #[.pointer (some ⟨g,0,none⟩)] w (NkPost base g tv ov w (groupV (rowF true false) s)):=by
 have ig:=h.inh
 obtain ⟨-,-,q2,-⟩:=h.six
 have ff:=h.free
 have H:=Lib.hid h
 obtain ⟨i0,hi,hz0,hz1,hz2⟩:=infoInt_parts
 have hg9:=h.groups
 obtain ⟨R,hR⟩:∃ R,groupV (rowF true false) s=R:=⟨_,rfl⟩
 rw [hR]
 have HR:=Lib.hid hR
 have HW:=Lib.hid hrow
 have HSN:=Lib.hid hsn
 clear h hR hrow hsn
 by_cases h9:s.groups+1≤9
 ·have d9:decide ((s.groups:Int)+1≤9)=true:=by rw [decide_eq_true_eq];omega
  by_cases hp:s.parts+1≤200
  ·go_enter Tryz.func84,Tryz.ntmps84
   go_wp2_with fail
   (with_reducible refine (must_ok _).mono ?_)
   rintro e w1 ⟨rfl,rfl⟩
   go_wp2_with fail
   obtain ⟨rb,hrb⟩:∃ n,n=w.heap.size:=⟨_,rfl⟩
   have hgl:g < w.heap.size:=ig
   have hP0:=H.out.setGroups ((s.groups:Int)+1) (by simp) h9
   have P1:=Lib.hid (hP0.grows ((Grows.refl _).alloc (.cells (ndA 0 0 noSet 0 0 0 (.slice none 0 0)) 95)))
   have hs1:(w.setCell ⟨g,2,none⟩ (.int .i64 ((s.groups:Int)+1))).heap.size=w.heap.size:=by simp
   have C1:=Lib.hid ((chg_cell w g 2 (.int .i64 ((s.groups:Int)+1))).trans (Chg.of_grows ((Grows.refl (w.setCell ⟨g,2,none⟩ (.int .i64 ((s.groups:Int)+1)))).alloc (.cells (ndA 0 0 noSet 0 0 0 (.slice none 0 0)) 95))))
   have hb1:blk ((w.setCell ⟨g,2,none⟩ (.int .i64 ((s.groups:Int)+1))).alloc (.cells (ndA 0 0 noSet 0 0 0 (.slice none 0 0)) 95)) rb=ndA 0 0 noSet 0 0 0 (.slice none 0 0):=blk_alloc_at _ _ _ _ (by rw [hs1,hrb])
   have hz1':((w.setCell ⟨g,2,none⟩ (.int .i64 ((s.groups:Int)+1))).alloc (.cells (ndA 0 0 noSet 0 0 0 (.slice none 0 0)) 95)).heap.size=w.heap.size+1:=by simp
   generalize (w.setCell ⟨g,2,none⟩ (.int .i64 ((s.groups:Int)+1))).alloc (.cells (ndA 0 0 noSet 0 0 0 (.slice none 0 0)) 95)=w1 at *
   (with_reducible refine (node_ok P1.out hp 7 0 noSet ((s.groups:Int)+1) 0 0 none 0 0).mono ?_)
   rintro e w2 ⟨rfl,hP,hC⟩
   have hrg:¬ rb=g:=by omega
   have hb2:blk w2 rb=ndA 0 0 noSet 0 0 0 (.slice none 0 0):=(chg_blk hC (by omega) hrg).trans hb1
   have P2:=Lib.hid hP
   have C2:=Lib.hid (C1.out.trans hC)
   have hz2':w.heap.size+1≤w2.heap.size:=by have:=hC.size;omega
   have ir2:InHeap rb w2:=Blk.inHeap hb2 (by simp [ndA_size])
   clear hP hC hb1 hs1 hP0 P1 C1 hz1' q2 ff
   go_wp2_with fail
   obtain ⟨xb,hxb⟩:∃ n,n=w2.heap.size:=⟨_,rfl⟩
   have P3:=Lib.hid (P2.out.grows ((Grows.refl _).alloc (.cells (ndA 7 0 noSet ((s.groups:Int)+1) 0 0 (.slice none 0 0)) 95)))
   have C3:=Lib.hid (C2.out.trans (Chg.of_grows ((Grows.refl _).alloc (.cells (ndA 7 0 noSet ((s.groups:Int)+1) 0 0 (.slice none 0 0)) 95))))
   have hb3:blk (w2.alloc (.cells (ndA 7 0 noSet ((s.groups:Int)+1) 0 0 (.slice none 0 0)) 95)) xb=ndA 7 0 noSet ((s.groups:Int)+1) 0 0 (.slice none 0 0):=blk_alloc_at _ _ _ _ hxb
   have hr3:blk (w2.alloc (.cells (ndA 7 0 noSet ((s.groups:Int)+1) 0 0 (.slice none 0 0)) 95)) rb=ndA 0 0 noSet 0 0 0 (.slice none 0 0):=by rw [blk_alloc_past _ _ _ ir2,hb2]
   have hz3:(w2.alloc (.cells (ndA 7 0 noSet ((s.groups:Int)+1) 0 0 (.slice none 0 0)) 95)).heap.size=xb+1:=by simp [hxb]
   generalize w2.alloc (.cells (ndA 7 0 noSet ((s.groups:Int)+1) 0 0 (.slice none 0 0)) 95)=w3 at *
   have hrx:rb < xb:=by omega
   have ix3:InHeap xb w3:=Blk.inHeap hb3 (by simp [ndA_size])
   have x258:=(Blk.cell hb3 (by simp [ndA_size]) 258).trans (ndA_258 _ _ _ _ _ _ _)
   have i3:=P3.out.inh
   have f3:=P3.out.free
   obtain ⟨-,-,-,-,-,q5⟩:=P3.out.six
   have hopn:s.op.length≤1000000:=by have:=H.out.op;omega
   have hbase:base≤w3.heap.size:=by have:=P3.out.low;have:g < w3.heap.size:=i3;omega
   subst hrb hxb
   go_region_law (refine step_append_int (.tmp 32) (.tmp 35) 51 base 3 i0 (.int .i64 0) ov s.op.length (s.op.map fun n:Nat=>Value.int .i64 n) w3.heap.size (.int .i64 ((s.groups:Int)+1)) (by rfl) (by rfl) Tryz.underlying51 hi hz0 hz1 hz2 (by rfl) (by simp [Act.eval]) (own_growsI P3.out.own (by repeat' first | exact Grows.refl _ | refine Grows.more ?_ _ | refine Grows.alloc ?_ _ | refine Grows.drewN ?_ _ | refine Grows.drew ?_)) (by simp [Act.eval]) (by simp [go_sem]) rfl hopn (by simp;omega) ?_;intro e5 cap5 w6 hown6 hgr6 hlie6;have hx6:=Lib.hid ((Chg.of_grows ((by repeat' first | exact Grows.refl _ | refine Grows.more ?_ _ | refine Grows.alloc ?_ _ | refine Grows.drewN ?_ _ | refine Grows.drew ?_):Grows w3 _)).trans hgr6);have ho6:=Lib.hid hown6;have hl6:=Lib.hid (hlie6.imp id (fun e=>(by simp at e;omega:w3.heap.size≤e5)));have hb6:=(chg_blk hx6.out i3 P3.out.ne).trans P3.out.cells;have q6:=(Blk.cell hb6 (paC_pos _ _ _ _ _ _) 5).trans (show _=some ov from rfl);have f6:=Blk.free hb6 (paC_pos _ _ _ _ _ _);have i6:=Blk.inHeap hb6 (paC_pos _ _ _ _ _ _);clear hown6 hgr6 hlie6 hb6)
   all_goals
    obtain ⟨hP7,hS7⟩:=P3.out.push (n:=s.groups+1) ho6.out hx6.out hl6.out (by have:=H.out.op;simp;omega)
    have P7:=Lib.hid hP7
    have S7:=Lib.hid ((StepP.of_chg (C3.out.mono fun b _ e=>(.inl e:PaK g ov b))).trans hS7)
    have hxw:w2.heap.size < w3.heap.size:=ix3
    have hnx7:Hid (¬ PaK g (.slice (some ⟨e5,0,none⟩) (s.op.length+1) cap5) w2.heap.size):=Lib.hid (fun hk=>by
     rcases hS7.new _ hk with h1 | h1
     ·exact P2.out.fresh h1
     ·omega)
    have hnr7:Hid (¬ PaK g (.slice (some ⟨e5,0,none⟩) (s.op.length+1) cap5) w.heap.size):=Lib.hid (fun hk=>by
     rcases hS7.new _ hk with h1 | h1
     ·exact H.out.fresh h1
     ·omega)
    have hb7:blk (w6.setCell ⟨g,5,none⟩ (.slice (some ⟨e5,0,none⟩) (s.op.length+1) cap5)) w2.heap.size=ndA 7 0 noSet ((s.groups:Int)+1) 0 0 (.slice none 0 0):=(chg_blk hS7.chg ix3 P2.out.fresh).trans hb3
    have hr7:blk (w6.setCell ⟨g,5,none⟩ (.slice (some ⟨e5,0,none⟩) (s.op.length+1) cap5)) w.heap.size=ndA 0 0 noSet 0 0 0 (.slice none 0 0):=(chg_blk hS7.chg (by omega) H.out.fresh).trans hr3
    have hsz7:Hid (w2.heap.size+1≤(w6.setCell ⟨g,5,none⟩ (.slice (some ⟨e5,0,none⟩) (s.op.length+1) cap5)).heap.size):=Lib.hid (Nat.le_trans (Nat.le_of_eq hz3.symm) hS7.chg.size)
    clear hP7 hS7 hx6 ho6 hl6 P3 C3 P2 C2 hb3 hr3 q5 x258 f3 hz3 hb2
    go_wp2_with fail
    generalize w6.setCell ⟨g,5,none⟩ (.slice (some ⟨e5,0,none⟩) (s.op.length+1) cap5)=w7 at *
    generalize Value.slice (some ⟨e5,0,none⟩) (s.op.length+1) cap5=ov7 at P7 S7 hnx7 hnr7
    have hRr:=HR.out
    unfold groupV at hRr
    rw [if_pos h9] at hRr
    simp only [node1,if_pos hp,Option.bind_some] at hRr
    have hcall:=HW.out { s with groups:=s.groups+1,parts:=s.parts+1,op:=s.op++[s.groups+1] } (Nat.le_refl _) base g ov7 w7 P7.out (HSN.out.chg S7.out.chg fun b hb=>H.out.own_low hb)
    cases hrow:rowF true false { s with groups:=s.groups+1,parts:=s.parts+1,op:=s.op++[s.groups+1] } with
    | none =>
     rw [hrow] at hcall hRr
     refine hcall.mono ?_
     rintro e w8 ⟨rfl,hc⟩
     have hV:R=none:=hRr.symm
     subst hV
     exact ⟨rfl,rfl,chg_late S7.out.chg hc fun b hb hk=>by
      rcases S7.out.new b hk with h1 | h1
      ·exact h1
      ·omega⟩
    | some y =>
     obtain ⟨f,t8⟩:=y
     have hk:=rowF_kept hrow
     rw [hrow] at hcall hRr
     simp only [Option.bind_some] at hRr
     refine hcall.mono ?_
     rintro e w8 ⟨A,cap,ov8,rfl,hP,hS,hF⟩
     have P8:=Lib.hid hP
     have S8:=Lib.hid (S7.out.trans hS)
     have hx7:w2.heap.size < w7.heap.size:=by have:=hsz7.out;omega
     have hnx8:Hid (¬ PaK g ov8 w2.heap.size):=Lib.hid (fun h=>by
      rcases hS.new _ h with h1 | h1
      ·exact hnx7.out h1
      ·omega)
     have hnr8:Hid (¬ PaK g ov8 w.heap.size):=Lib.hid (fun h=>by
      rcases hS.new _ h with h1 | h1
      ·exact hnr7.out h1
      ·omega)
     have hb8:=(chg_blk hS.chg hx7 hnx7.out).trans hb7
     have hr8:=(chg_blk hS.chg (by omega) hnr7.out).trans hr7
     have F8:=Lib.hid hF
     have hz8:Hid (w7.heap.size≤w8.heap.size):=Lib.hid hS.chg.size
     have K8:=Lib.hid hk
     have ix8:InHeap w2.heap.size w8:=Blk.inHeap hb8 (by simp [ndA_size])
     have x261:=(Blk.cell hb8 (by simp [ndA_size]) 261).trans (ndA_261 _ _ _ _ _ _ _)
     have fx8:=Blk.free hb8 (by simp [ndA_size])
     have HG:=Lib.hid hRr
     clear hP hS hF hk hcall hrow hb7 hr7 P7 S7 hRr
     go_wp2_with fail
     have c9:=chg_cell w8 w2.heap.size 261 (.slice A f.len cap)
     have hb9:blk (w8.setCell ⟨w2.heap.size,261,none⟩ (.slice A f.len cap)) w2.heap.size=ndA 7 0 noSet ((s.groups:Int)+1) 0 0 (.slice A f.len cap):=(pa_put hb8 (by simp [ndA_size]) 261 _).trans (ndA_setK _ _ _ _ _ _ _ _)
     have hr9:=(chg_blk c9 (Blk.inHeap hr8 (by simp [ndA_size])) (by omega)).trans hr8
     have P9:=Lib.hid (P8.out.chg c9 fun b hb e=>hnx8.out (e ▸ hb))
     have F9:=Lib.hid (F8.out.chg c9 fun b hb h e=>by have:=h.1;omega)
     have S9:Hid (StepP (PaK g ov) (PaK g ov8) w (w8.setCell ⟨w2.heap.size,261,none⟩ (.slice A f.len cap))):=Lib.hid ⟨chg_late S8.out.chg c9 fun b hb e=>by omega,S8.out.new⟩
     clear c9 hb8 hr8 P8 F8 S8 x261 fx8 ix8
     generalize w8.setCell ⟨w2.heap.size,261,none⟩ (.slice A f.len cap)=w9 at *
     have i9:InHeap w2.heap.size w9:=Blk.inHeap hb9 (by simp [ndA_size])
     have ir9:InHeap w.heap.size w9:=Blk.inHeap hr9 (by simp [ndA_size])
     have hxg:¬ w2.heap.size=g:=fun e=>hnx8.out (.inl e)
     have hrg2:¬ w.heap.size=g:=fun e=>hnr8.out (.inl e)
     cases hcl:ahead [92,41] t8.left with
     | false =>
      have hV:R=none:=by have:=HG.out;rw [hcl] at this;simpa using this.symm
      (with_reducible refine (take_no P9.out [92,41] hcl ⟨#[92,41]⟩ rfl).mono ?_)
      rintro e w10 ⟨rfl,hP,hC⟩
      go_wp2_with fail
      (with_reducible refine (must_no _).mono ?_)
      rintro e w11 ⟨rfl,rfl⟩
      subst hV
      exact ⟨rfl,rfl,chg_late S9.out.chg hC fun b hb e=>.inl e⟩
     | true =>
      have hV:R=some ((groupN (s.groups+1),f),{ t8 with left:=t8.left.drop 2,op:=t8.op.dropLast }):=by have:=HG.out;rw [hcl] at this;simpa using this.symm
      (with_reducible refine (take_yes P9.out [92,41] hcl ⟨#[92,41]⟩ rfl 2 rfl).mono ?_)
      rintro e w10 ⟨rfl,hP,hC⟩
      have P10:=Lib.hid hP
      have hb10:=(chg_blk hC i9 hxg).trans hb9
      have hr10:=(chg_blk hC ir9 hrg2).trans hr9
      have F10:=Lib.hid (F9.out.chg hC fun b hb h e=>h.2 (.inl e))
      have S10:Hid (StepP (PaK g ov) (PaK g ov8) w w10):=Lib.hid (S9.out.trans (StepP.of_chg (hC.mono fun b _ e=>(.inl e:PaK g ov8 b))))
      clear hP hC hb9 hr9 P9 F9 S9 HG i9 ir9
      go_wp2_with fail
      (with_reducible refine (must_ok _).mono ?_)
      rintro e w11 ⟨rfl,rfl⟩
      have hop:t8.op=s.op++[s.groups+1]:=K8.out.op
      have hown:=P10.out.own
      have hol:({ t8 with left:=t8.left.drop 2 }:PS).op.length=s.op.length+1:=by simp [hop]
      rw [hol] at hown
      obtain ⟨e8,cap8,rfl,hle8,hc8,-,-⟩:=own_form1 hown
      have i10:=P10.out.inh
      have f10:=P10.out.free
      obtain ⟨-,-,-,-,-,q10⟩:=P10.out.six
      have hdl:t8.op.dropLast=s.op:=by rw [hop];simp
      have HOP:=Lib.hid hop
      clear hown hol hop
      have ho9:=H.out.op
      have hw64:IntKind.i64.wrap (s.op.length:Int)=s.op.length:=IntWalk.i64_in _ (by omega)
      have hl0:(0:Int)≤(s.op.length:Int):=by omega
      have hl8:(s.op.length:Int)≤(cap8:Int):=by omega
      have hK8:Hid (¬ PaK g (.slice (some ⟨e8,0,none⟩) s.op.length cap8) w2.heap.size):=hnx8
      have hR8:Hid (¬ PaK g (.slice (some ⟨e8,0,none⟩) s.op.length cap8) w.heap.size):=hnr8
      have ib10:InHeap w2.heap.size w10:=Blk.inHeap hb10 (by simp [ndA_size])
      have ir10:InHeap w.heap.size w10:=Blk.inHeap hr10 (by simp [ndA_size])
      go_wp2_with fail
      go_region_law (fail)
      all_goals
       have hgd:Grows (w10.setCell ⟨g,5,none⟩ (.slice (some ⟨e8,0,none⟩) s.op.length cap8)) (w10.setCell ⟨g,5,none⟩ (.slice (some ⟨e8,0,none⟩) s.op.length cap8)).drew:=(Grows.refl _).drew
       have P11:=Lib.hid ((P10.out.pop (l:=s.op) (n:=s.groups+1) HOP.out).grows hgd)
       have C11:Hid (Chg (fun b=>b=g) w10 (w10.setCell ⟨g,5,none⟩ (.slice (some ⟨e8,0,none⟩) s.op.length cap8)).drew):=Lib.hid ((chg_cell w10 g 5 _).trans (Chg.of_grows hgd))
       have hb11:=(chg_blk C11.out ib10 hxg).trans hb10
       have hr11:=(chg_blk C11.out ir10 hrg2).trans hr10
       have F11:=Lib.hid (F10.out.chg C11.out fun b hb h e=>h.2 (.inl e))
       have S11:Hid (StepP (PaK g ov) (PaK g (.slice (some ⟨e8,0,none⟩) s.op.length cap8)) w (w10.setCell ⟨g,5,none⟩ (.slice (some ⟨e8,0,none⟩) s.op.length cap8)).drew):=Lib.hid (S10.out.trans (StepP.of_chg (C11.out.mono fun b _ e=>(.inl e:PaK g (.slice (some ⟨e8,0,none⟩) s.op.length cap8) b))))
       clear hgd P10 C11 hb10 hr10 F10 S10 q10 f10 i10
       generalize (w10.setCell ⟨g,5,none⟩ (.slice (some ⟨e8,0,none⟩) s.op.length cap8)).drew=w11 at *
       have ib11:InHeap w2.heap.size w11:=Blk.inHeap hb11 (by simp [ndA_size])
       have ir11:InHeap w.heap.size w11:=Blk.inHeap hr11 (by simp [ndA_size])
       go_wp2_with fail
       rw [hdl] at hV
       subst hV
       have hx7:=hsz7.out
       obtain ⟨n1,n2,n3⟩:=nk_ret (c:=ndA 7 0 noSet ((s.groups:Int)+1) 0 0 (.slice A f.len cap)) (v:=.agg (ndC (groupN (s.groups+1)) (.slice A f.len cap))) (y:=(groupN (s.groups+1),f)) P11.out S11.out (Nat.le_refl w.heap.size) hR8.out ⟨A,cap,rfl,F11.out.mono fun b hb h=>⟨⟨by have:=h.1;omega,h.2⟩,by have:=h.1;omega⟩⟩
       exact bodyPost_ret (results_node 2 rfl rfl (Blk.get _ hr11 (by simp [ndA_size])) (ndA_size _ _ _ _ _ _ _)) rfl ⟨_,_,rfl,n1,n2,n3⟩
  ·have hV:R=none:=by have:=HR.out;unfold groupV at this;rw [if_pos h9] at this;simp only [node1,if_neg hp,Option.bind_none] at this;exact this.symm
   go_enter Tryz.func84,Tryz.ntmps84
   go_wp2_with fail
   (with_reducible refine (must_ok _).mono ?_)
   rintro e w1 ⟨rfl,rfl⟩
   go_wp2_with fail
   have hP0:=H.out.setGroups ((s.groups:Int)+1) (by simp) h9
   have P1:=Lib.hid (hP0.grows ((Grows.refl _).alloc (.cells (ndA 0 0 noSet 0 0 0 (.slice none 0 0)) 95)))
   have C1:=Lib.hid ((chg_cell w g 2 (.int .i64 ((s.groups:Int)+1))).trans (Chg.of_grows ((Grows.refl (w.setCell ⟨g,2,none⟩ (.int .i64 ((s.groups:Int)+1)))).alloc (.cells (ndA 0 0 noSet 0 0 0 (.slice none 0 0)) 95))))
   (with_reducible refine (node_no P1.out hp _ (ndA_one_slice _ _ _ _ _ _ _ _ _) (ndA_size _ _ _ _ _ _ _)).mono ?_)
   rintro e w2 ⟨rfl,hC⟩
   subst hV
   exact ⟨rfl,rfl,(C1.out.trans hC).mono fun b _ e=>.inl e⟩
 ·have hV:R=none:=by have:=HR.out;unfold groupV at this;rw [if_neg h9] at this;exact this.symm
  have d9:decide ((s.groups:Int)+1≤9)=false:=by rw [decide_eq_false_iff_not];omega
  go_enter Tryz.func84,Tryz.ntmps84
  go_wp2_with fail
  (with_reducible refine (must_no _).mono ?_)
  rintro e w1 ⟨rfl,rfl⟩
  subst hV
  exact ⟨rfl,rfl,((chg_cell w g 2 (.int .i64 ((s.groups:Int)+1))).trans (Chg.of_grows ((Grows.refl _).alloc _))).mono fun b _ e=>.inl e⟩
end
end Go.Proofs.YtnjagecmhdagkaaGreatDoor
