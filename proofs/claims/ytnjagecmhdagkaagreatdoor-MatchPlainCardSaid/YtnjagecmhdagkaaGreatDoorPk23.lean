/-
 Several texts of the proof: BreRdV, BreRdW.
-/
import Derived.Test.YtnjagecmhdagkaaGreatDoorPk22
import Derived.Test.YtnjagecmhdagkaaGreatDoorPk14
set_option linter.unusedSimpArgs false
set_option linter.unusedVariables false
set_option maxRecDepth 3000
/-
  Patterns: the document's reader: a part, the last case and all. (Printed by brerdq.py.)
-/
namespace Go.Proofs.YtnjagecmhdagkaaGreatDoor
open Go.RowKit
section
variable {w:World} {g at_:Nat} {s:List UInt8} {r:RdS}
attribute [local go_sem ↓] zeroNodeR bldNdR_eq ldNodeR_eq stNodeR_eq zero22
attribute [local go_sem] bldR_none bldR_kind bldR_byte bldR_set bldR_n loadNodeR loadNodeR_if storeNodeR storeNodeR_if ndA_one_slice tx_bt
set_option maxRecDepth 100000 in
set_option maxHeartbeats 2000000 in
theorem rpart_else (h:StAt w g s at_ r false) (hl:s.length≤1000) (first begun:Bool) {c:UInt8} {l:List UInt8} (e:r.left=c::l) (j92:¬ c.toNat=92) (j91:¬ c.toNat=91) (j46:¬ c.toNat=46) (j94:¬ c.toNat=94) (j36:¬ c.toNat=36) (j42:¬ c.toNat=42) (row:RdS→Option (Fr × RdS))
  (hrow:∀ (t:RdS) (at2:Nat) (w:World),t.left.length < r.left.length→StAt w g s at2 t false→Calls Tryz.prog 20 #[.pointer (some ⟨g,0,none⟩)] w (RowR w g s (row t))) :
  Calls Tryz.prog 37 #[.pointer (some ⟨g,0,none⟩),.bool first,.bool begun] w (PartR w g s (partR row first begun r)):=by
 obtain ⟨a1,hb,hend⟩:=h.ahead1 e
 have a2:(at_:Int) < (s.length:Int):=by omega
 obtain ⟨R,hR⟩:∃ R,partR row first begun r=R:=⟨_,rfl⟩
 have hV:R=(if c.toNat=92 then slashR row r
  else if c.toNat=91 then (parseV (c::l)).map fun y=>((setN y.1,.nil),r.node y.2)
  else if c.toNat=46 then some ((ndK 2,.nil),r.node 1)
  else if c.toNat=94∧first=true then some ((ndK 4,.nil),r.node 1)
  else if c.toNat=36∧(l=[]∨ahead [92,41] l=true) then some ((ndK 5,.nil),r.node 1)
  else if c.toNat=42∧first=false∧begun=false then none
  else some ((byteN c.toNat,.nil),r.node 1)):=by rw [← hR];unfold partR;rw [e]
 rw [hR]
 clear hR
 obtain ⟨c0',c1,-,-,-,-⟩:=h.rd.cells
 have ig:=h.inh
 have ha:at_≤1000:=by omega
 have hd36:c.toNat=36→ahead [36,92,41] r.left=ahead [92,41] l:=by
  intro k
  have hc:c=36:=UInt8.toNat_inj.1 k
  rw [e,hc]
  rfl
 have hlen1:1≤r.left.length:=by rw [e];simp
 have hdrop:s.drop at_=c::l:=by rw [← h.left,e]
 have HD:=Lib.hid hdrop
 have HE:=Lib.hid e
 have HL:=Lib.hid hlen1
 have HW:=Lib.hid hrow
 have H:=Lib.hid h
 have HEND:=Lib.hid hend
 have HD36:=Lib.hid hd36
 clear hdrop h e hlen1 hrow hend hd36
 obtain ⟨n,hn⟩:∃ n,c.toNat=n:=⟨_,rfl⟩
 rw [hn] at hV hb
 have k92:¬ n=92:=by rw [← hn];exact j92
 have k91:¬ n=91:=by rw [← hn];exact j91
 have k46:¬ n=46:=by rw [← hn];exact j46
 have k94:¬ n=94:=by rw [← hn];exact j94
 have k36:¬ n=36:=by rw [← hn];exact j36
 have k42:¬ n=42:=by rw [← hn];exact j42
 have HN:=Lib.hid hn
 clear hn
 go_enter Tryz.func37,Tryz.ntmps37
 go_upto_region 3 with fail
 have Z1:Zr g w w.heap.size (w.alloc (.cells (ndA 0 0 noSet 0 0 0 (.slice none 0 0)) 91)):=Zr.start ig (Grows.refl _)
 have S1:StAt (w.alloc (.cells (ndA 0 0 noSet 0 0 0 (.slice none 0 0)) 91)) g s at_ r false:=H.out.grows ((Grows.refl _).alloc _)
 generalize (w.alloc (.cells (ndA 0 0 noSet 0 0 0 (.slice none 0 0)) 91))=w1 at *
 clear c0' c1 ig H
 obtain ⟨c0',c1,-,-,-,c5⟩:=S1.rd.cells
 have ig:=S1.inh
 have ff:=S1.rd.free
 have HZ1:=Lib.hid Z1
 have HS1:=Lib.hid S1
 clear Z1 S1
 rw [if_neg k92] at hV
 have e92:((n:Int) == 92)=false:=by rw [beq_eq_false_iff_ne];omega
 rw [if_neg k91] at hV
 have e91:((n:Int) == 91)=false:=by rw [beq_eq_false_iff_ne];omega
 rw [if_neg k46] at hV
 have e46:((n:Int) == 46)=false:=by rw [beq_eq_false_iff_ne];omega
 rw [if_neg (fun h=>k94 h.1)] at hV
 have e94:((n:Int) == 94)=false:=by rw [beq_eq_false_iff_ne];omega
 rw [if_neg (fun h=>k36 h.1)] at hV
 have e36:((n:Int) == 36)=false:=by rw [beq_eq_false_iff_ne];omega
 rw [if_neg (fun h=>k42 h.1)] at hV
 have e42:((n:Int) == 42)=false:=by rw [beq_eq_false_iff_ne];omega
 have HV:=Lib.hid hV
 clear hV
 go_wp2_with fail
 (with_reducible refine (node_lit HS1.out hl 1 1 rfl (Nat.le_refl 1) HL.out 1 n noSet 0 0 0 none 0 0).mono ?_)
 rintro e w4 ⟨rfl,hS4,hC4⟩
 have Z4:=HZ1.out.step hC4
 have hz:=Z4.res
 have iz:=Z4.inh
 have HZ:=Lib.hid Z4
 have HS:=Lib.hid hS4
 clear Z4 hS4 hC4 HZ1 HS1 c0' c1 c5 ig ff
 go_wp2_with fail
 exact bodyPost_ret (results_nodeR 6 rfl rfl (Blk.get _ hz (by simp [ndA_size])) (ndA_size _ _ _ _ _ _ _)) rfl (part_ret HZ.out HS.out (ok:=fun b=>(b≠g∧w.heap.size≤b)∧b≠w.heap.size) (NkK.leaf HV.out) (fun b h=>h) rfl)
theorem rpart_any (h:StAt w g s at_ r false) (hl:s.length≤1000) (first begun:Bool) {c:UInt8} {l:List UInt8} (e:r.left=c::l) (row:RdS→Option (Fr × RdS))
  (hrow:∀ (t:RdS) (at2:Nat) (w:World),t.left.length < r.left.length→StAt w g s at2 t false→Calls Tryz.prog 20 #[.pointer (some ⟨g,0,none⟩)] w (RowR w g s (row t))) :
  Calls Tryz.prog 37 #[.pointer (some ⟨g,0,none⟩),.bool first,.bool begun] w (PartR w g s (partR row first begun r)):=by
 by_cases k92:c.toNat=92
 ·exact rpart_92 h hl first begun e k92 row hrow
 by_cases k91:c.toNat=91
 ·exact rpart_91 h hl first begun e k92 k91 row hrow
 by_cases k46:c.toNat=46
 ·exact rpart_46 h hl first begun e k92 k91 k46 row hrow
 by_cases k94:c.toNat=94
 ·exact rpart_94 h hl first begun e k92 k91 k46 k94 row hrow
 by_cases k36:c.toNat=36
 ·exact rpart_36 h hl first begun e k92 k91 k46 k94 k36 row hrow
 by_cases k42:c.toNat=42
 ·exact rpart_42 h hl first begun e k92 k91 k46 k94 k36 k42 row hrow
 exact rpart_else h hl first begun e k92 k91 k46 k94 k36 k42 row hrow
end
end Go.Proofs.YtnjagecmhdagkaaGreatDoor
namespace Go.Proofs.YtnjagecmhdagkaaGreatDoor
open Go.RowKit
theorem infoNodeR:∃ i,Tryz.prog.info? 91=some i∧i.zero=some (.agg zN)∧i.size=262∧i.bytes=320:=by
 have h1:(Tryz.prog.info? 91).map (·.bytes)=some 320:=by kernel_rfl
 have h2:(Tryz.prog.info? 91).map (·.size)=some 262:=by kernel_rfl
 have h3:(Tryz.prog.info? 91).map (·.zero)=some (some (.agg zN)):=by kernel_rfl
 cases hq:Tryz.prog.info? 91 with
 | none=>rw [hq] at h1;cases h1
 | some i =>
  rw [hq] at h1 h2 h3
  exact ⟨i,rfl,Option.some.inj h3,Option.some.inj h2,Option.some.inj h1⟩
theorem wpList_append_nodeR {ops:Array Oper} {rest:List Oper} {o:Oper} {a:Act} {Q:Exit→Act→World→Prop} {w:World} (s x:Operand) (base:Nat) (v:Value) (n:Nat) (xs:List Value) (kb:Nat) (c:Array Value)
  (hgd:o.guard=none) (ho:o.op=.call { callee:=.builtin .append,args:=#[s,x],argTypes:=#[31,31] })
  (hs:a.eval s=v) (hown:w.ownsRow base 91 262 v n xs) (hx:a.eval x=.slice (some ⟨kb,0,none⟩) 1 1) (hb:blk w kb=c) (hc:c.size=262) (h1:OneCells c) (hn:n≤1000000) (hbase:base≤w.heap.size)
  (h:∀ e cap w',w'.ownsRow base 91 262 (.slice (some ⟨e,0,none⟩) (n+1) cap) (n+1) (xs++c.toList)→Chg (fun b=>v.ownBlock=some b) w w'→(v.ownBlock=some e∨w.heap.size≤e)→wpList Tryz.prog ops Q rest (a.put o.dst (.slice (some ⟨e,0,none⟩) (n+1) cap)) w'):wpList Tryz.prog ops Q (o::rest) a w:=by
 obtain ⟨i0,hi,hz0,hz1,hz2⟩:=infoNodeR
 refine wpList_append_lies w hgd s x 31 ho base 91 i0 (.agg zN) 262 320 Tryz.underlying31 hi hz0 hz1 hz2 (ndA_size _ _ _ _ _ _ _) (by decide) v n xs hs hown ⟨kb,0,none⟩ 1 1 c.toList hx (by simp [hc]) (fun j u hj=>?_) (fun u hu=>?_) (by decide) (by unfold maxLen;omega) (by omega) hbase _ rfl (fun e cap w' a1 a2 a3 _=>h e cap w' a1 (chg_grown a2) (a3.imp id (fun e=>by omega)))
 ·rw [add_off,Nat.zero_add,Blk.cell hb (by omega)]
  simpa using hj
 ·unfold OneCells at h1
  rw [Array.all_eq_true_iff_forall_mem] at h1
  exact h1 u (by simpa using hu)
structure LB (g:Nat) (W:World) (av:Nat→Prop) (lv:Value) (acc:Fr) (xs:List Value) (w:World):Prop where
 chg:Chg (fun b=>b=g) W w
 own:w.ownsRow W.heap.size 91 262 lv acc.len xs
 row:FrRow (fun b=>(b≠g∧W.heap.size≤b)∧¬ lv.ownBlock=some b∧¬ av b) w acc xs
 ne:∀ b,lv.ownBlock=some b→b≠g∧¬ av b
section
variable {g:Nat} {lv:Value} {W w w' w2:World} {av:Nat→Prop} {acc:Fr} {xs:List Value}
theorem LB.step (h:LB g W av lv acc xs w) (hC:Chg (fun b=>b=g) w w'):LB g W av lv acc xs w' :=
 ⟨h.chg.trans hC,own_chgB h.own hC fun b hb=>(h.ne b hb).1,h.row.chg hC fun b _ k=>k.1.1,h.ne⟩
theorem LB.avoid {xb:Nat} {o:Obj} (h:LB g W (fun _=>False) lv acc xs w) (hx:xb=w.heap.size):LB g W (fun b=>b=xb) lv acc xs (w.alloc o):=by
 subst hx
 have h2:=h.step (Chg.of_grows ((Grows.refl w).alloc o))
 exact ⟨h2.chg,h2.own,(h.row.mono fun b hb h3=>⟨h3.1,h3.2.1,by omega⟩).chg (Chg.of_grows (p:=fun _=>False) ((Grows.refl w).alloc o)) fun _ _ _ h=>h,fun b hb=>⟨(h.ne b hb).1,fun e=>by have:=(own_ltB h.own hb).1;omega⟩⟩
theorem LB.setx {xb:Nat} (h:LB g W (fun b=>b=xb) lv acc xs w) (hc:Chg (fun b=>b=xb) w w') (hW:W.heap.size≤xb):LB g W (fun b=>b=xb) lv acc xs w' :=
 ⟨chg_late h.chg hc fun x hx e=>by omega,own_chgB h.own hc fun b hb=>(h.ne b hb).2,h.row.chg hc fun b _ h=>h.2.2,h.ne⟩
theorem LB.push {e cap c:Nat} {A:Option Addr} {x:NdV} {k:Fr} (h:LB g W av lv acc xs w) (hg:g < W.heap.size) (hown:w2.ownsRow W.heap.size 91 262 (.slice (some ⟨e,0,none⟩) (acc.len+1) cap) (acc.len+1) (xs++(ndC x (.slice A k.len c)).toList)) (hC:Chg (fun b=>lv.ownBlock=some b) w w2) (hl:lv.ownBlock=some e∨w.heap.size≤e)
  (hk:FrAt (fun b=>(b≠g∧W.heap.size≤b)∧¬ lv.ownBlock=some b) w A c k):LB g W (fun _=>False) (.slice (some ⟨e,0,none⟩) (acc.len+1) cap) (acc.app (Fr.one x k)) (xs++(ndC x (.slice A k.len c)).toList) w2:=by
 have hlen:(acc.app (Fr.one x k)).len=acc.len+1:=by rw [Fr.len_app];rfl
 have hne:∀ b,b < w.heap.size→¬ lv.ownBlock=some b→¬ (Value.slice (some ⟨e,0,none⟩) (acc.len+1) cap).ownBlock=some b:=fun b hb h1 h2=>by
  obtain rfl:e=b:=Option.some.inj h2
  rcases hl with h3 | h3
  ·exact h1 h3
  ·omega
 refine ⟨chg_late h.chg hC fun b hb e1=>by have:=(own_ltB h.own e1).2;omega,by rw [hlen];exact hown,?_,fun b hb=>⟨fun hK=>?_,fun h=>h⟩⟩
 ·refine FrRow.app (((h.row.mono (ok2:=fun b=>((b≠g∧W.heap.size≤b)∧¬ (Value.slice (some ⟨e,0,none⟩) (acc.len+1) cap).ownBlock=some b∧¬ False)∧¬ lv.ownBlock=some b) fun b hb h2=>⟨⟨h2.1,hne b hb h2.2.1,fun h=>h⟩,h2.2.1⟩).chg hC fun b _ h=>h.2).mono fun b _ h=>h.1) ?_
  obtain ⟨ys,h1,h2⟩:=((hk.mono (ok2:=fun b=>((b≠g∧W.heap.size≤b)∧¬ (Value.slice (some ⟨e,0,none⟩) (acc.len+1) cap).ownBlock=some b∧¬ False)∧¬ lv.ownBlock=some b) fun b hb h2=>⟨⟨h2.1,hne b hb h2.2,fun h=>h⟩,h2.2⟩).chg hC fun b _ h=>h.2).mono (ok2:=fun b=>(b≠g∧W.heap.size≤b)∧¬ (Value.slice (some ⟨e,0,none⟩) (acc.len+1) cap).ownBlock=some b∧¬ False) fun b _ h=>h.1
  exact ⟨A,c,ys,[],(List.append_nil _).symm,h1,h2,rfl⟩
 ·obtain rfl:e=b:=Option.some.inj hb
  rcases hl with h3 | h3
  ·exact (h.ne e h3).1 hK
  ·have:=h.chg.size;omega
theorem LB.ret (h:LB g W av lv acc xs w):∃ A cap,lv=.slice A acc.len cap∧FrAt (fun b=>b≠g∧W.heap.size≤b) w A cap acc:=by
 have hr:=h.row.mono (ok2:=fun b=>b≠g∧W.heap.size≤b) fun b _ h=>h.1
 rcases h.own with ⟨hl,⟨rfl,h0⟩ | ⟨e,cap,cur,rfl,hb,hh,h1,h2,h3,h4⟩⟩
 ·rw [h0] at hl ⊢
  have:xs=[]:=List.length_eq_zero_iff.1 (by simpa using hl)
  subst this
  exact ⟨none,0,rfl,[],by rw [h0];exact Sl.zero _ w,hr⟩
 ·refine ⟨some ⟨e,0,none⟩,cap,rfl,xs,⟨⟨hl,fun _=>⟨e,0,rfl,(Array.getElem?_eq_some_iff.1 hh).1,fun j u hu=>?_⟩⟩,(fun e=>by cases e),h1,by unfold maxLen at h2;omega,fun _ a e1=>by cases e1;exact ⟨(h.ne e rfl).1,hb⟩⟩,hr⟩
  rw [cell_of_row w e _ cur _ (0,0) hh,Nat.zero_add]
  rw [← h4,List.getElem?_take] at hu
  split at hu
  ·simpa using hu
  ·cases hu
theorem LB.start (g:Nat) (w:World):LB g w (fun _=>False) (.slice none 0 0) .nil [] w :=
 ⟨Chg.of_grows (Grows.refl _),World.ownsRow_nil _ _ _ _,rfl,fun b hb=>by cases hb⟩
end
attribute [local go_sem ↓] zeroNodeR bldNdR_eq ldNodeR_eq stNodeR_eq bldSlR_eq
attribute [local go_sem] bldR_none bldR_kind bldR_byte bldR_set bldR_n loadNodeR loadNodeR_if storeNodeR storeNodeR_if ndA_one_slice tx_bt bldSlR_run
section
variable {w:World} {g at_:Nat} {s:List UInt8} {r:RdS}
theorem StAt.end_ (h:StAt w g s at_ r false):r.left=[] ↔ ¬ at_ < s.length:=by
 rw [h.left,List.drop_eq_nil_iff];omega
set_option maxRecDepth 100000 in
set_option maxHeartbeats 4000000 in
theorem rrow_of (h:StAt w g s at_ r false) (hl:s.length≤1000) (n:Nat) (hn:r.left.length < n)
  (ih:∀ k,k < n→∀ (t:RdS) (at2:Nat) (w:World),t.left.length < k→StAt w g s at2 t false→Calls Tryz.prog 20 #[.pointer (some ⟨g,0,none⟩)] w (RowR w g s (rowR k true false t))) :
  Calls Tryz.prog 20 #[.pointer (some ⟨g,0,none⟩)] w (RowR w g s (rowR n true false r)):=by
 obtain ⟨R,hR⟩:∃ R,rowR n true false r=R:=⟨_,rfl⟩
 have hR2:R=(rowR n (decide (Fr.nil.len=0)) false r).map fun y=>(Fr.nil.app y.1,y.2):=by
  rw [← hR]
  cases hq:rowR n true false r with
  | none=>rw [show decide (Fr.nil.len=0)=true from rfl,hq];rfl
  | some y=>rw [show decide (Fr.nil.len=0)=true from rfl,hq];rfl
 rw [hR]
 have hgl:g < w.heap.size:=h.inh
 have hll:r.left.length≤1000:=by rw [h.left,List.length_drop];omega
 have H:=Lib.hid h
 have HW:=Lib.hid ih
 have HR2:=Lib.hid hR2
 have HN:=Lib.hid hn
 clear h hR ih hR2 hn
 go_enter Tryz.func20,Tryz.ntmps20
 go_wp2_with fail
 go_loopg [3,4] (n+1) (fun q v3 v4 wr=>(∃ (lv:Value) (acc:Fr) (xs:List Value) (t:RdS) (begun:Bool) (at2 m:Nat),q=m+1∧v3=lv∧v4=.bool begun∧LB g w (fun _=>False) lv acc xs wr∧StAt wr g s at2 t false∧R=((rowR m (decide (acc.len=0)) begun t).map fun y=>(acc.app y.1,y.2))∧t.left.length < m∧m≤n∧acc.len+t.left.length≤r.left.length) ∨
  (∃ (A:Option Addr) (l c at2:Nat) (t:RdS) (bg:Bool),q=0∧v3=.slice A l c∧v4=.bool bg∧R=none∧StAt wr g s at2 t true∧Chg (fun b=>b=g) w wr))
 case atStart=>exact .inl ⟨_,.nil,[],r,false,at_,n,rfl,rfl,rfl,LB.start g w,H.out,HR2.out,HN.out,Nat.le_refl _,by simp [Fr.len]⟩
 case round =>
  obtain ⟨wx,hwx⟩:∃ z,z=wr:=⟨_,rfl⟩
  subst hwx
  clear H HR2 HN
  rcases hrel with ⟨lv,acc,xs,t,begun,at2,m,hq,rfl,rfl,hB,hS,hV,hm,hmn,hln⟩ | ⟨A,l,c,at2,t,bg,hq,rfl,rfl,hV,hS,hC⟩
  ·have HQ:=Lib.hid hq
   obtain ⟨m,rfl⟩:∃ k,m=k+1:=⟨m - 1,by omega⟩
   have hend:=hS.end_
   obtain ⟨N,hN⟩:∃ N,acc.len=N:=⟨_,rfl⟩
   obtain ⟨fst,hf⟩:∃ b:Bool,decide (N=0)=b:=⟨_,rfl⟩
   have hfi:=eq_int N 0 fst hf
   obtain ⟨A0,cap0,hlv,hF0⟩:=hB.ret
   subst hlv
   have hnm:acc.len≤1000:=by omega
   rw [hN] at hV hB hnm hln
   rw [hN]
   rw [hf] at hV
   rw [rowR] at hV
   have hmle:m≤n:=by omega
   have hml:t.left.length≤m:=by omega
   have HB:=Lib.hid hB
   have HS:=Lib.hid hS
   have HV:=Lib.hid hV
   have HM:=Lib.hid hml
   have HMN:=Lib.hid hmle
   have HMN2:=Lib.hid hmn
   have HLN:=Lib.hid hln
   have HF0:=Lib.hid hF0
   have HACC:=Lib.hid hN
   have HFST:=Lib.hid hf
   have HEND:=Lib.hid hend
   obtain ⟨c0,c1,c2,c3,c4,c5⟩:=hS.rd.cells
   have ig:=hS.inh
   have ff:=hS.rd.free
   have ha:at2≤1000:=by have:=hS.ale;omega
   clear hq hB hS hV hml hmle hmn hln hF0 hf hend hm hN c3 c4
   have e0:((0:Nat):Int)=0:=rfl
   rw [e0] at hfi
   clear e0
   cases hlc:t.left with
   | nil =>
    have hV2:R=some (acc,t):=by rw [HV.out,if_pos (.inl (by unfold stopV;rw [hlc];rfl))];simp [Fr.app_nil]
    have elt:decide (at2 < s.length)=false:=by rw [decide_eq_false_iff_not];exact HEND.out.1 hlc
    go_upto_region 3 with fail
    refine region_grows (by kernel_rfl) (by kernel_rfl) ?_
    repeat (go_big_quiet_step (fail))
    refine wpQuiet_nil ?_
    intro _ hw'
    obtain ⟨m1,rfl⟩:=hw'
    go_wp2_with fail
    rw [hV2]
    go_ret
    exact ⟨A0,cap0,by rw [HACC.out];rfl,HF0.out.grows ⟨m1,rfl⟩,⟨at2,HS.out.grows ⟨m1,rfl⟩⟩,HB.out.chg.trans (Chg.of_grows ⟨m1,rfl⟩)⟩
   | cons c l =>
    have elt:at2 < s.length:=by have:=(not_congr HEND.out).1 (by rw [hlc];exact List.cons_ne_nil _ _);omega
    have HLC:=Lib.hid hlc
    clear hlc
    cases hcl:ahead [92,41] t.left with
    | true =>
     have hV2:R=some (acc,t):=by rw [HV.out,if_pos (.inl (by unfold stopV;rw [hcl];simp))];simp [Fr.app_nil]
     have qis:∀ (m:More),Calls Tryz.prog 36 #[.pointer (some ⟨g,0,none⟩),.string ⟨#[92,41]⟩] (more wx m) fun e w'=>e=.returned (.bool true)∧Grows (more wx m) w':=fun m=>is_at (HS.out.grows ⟨m,rfl⟩) hl [92,41] (by decide) ⟨#[92,41]⟩ rfl true hcl
     have HCL:=Lib.hid hcl
     clear hcl
     go_upto_region 3 with fail
     refine region_grows (by kernel_rfl) (by kernel_rfl) ?_
     repeat (go_big_quiet_step ((go_at_call 36;exact calls_grows (qis _))))
     refine wpQuiet_nil ?_
     intro _ hw'
     obtain ⟨m1,rfl⟩:=hw'
     go_wp2_with fail
     rw [hV2]
     go_ret
     exact ⟨A0,cap0,by rw [HACC.out];rfl,HF0.out.grows ⟨m1,rfl⟩,⟨at2,HS.out.grows ⟨m1,rfl⟩⟩,HB.out.chg.trans (Chg.of_grows ⟨m1,rfl⟩)⟩
    | false =>
     have qis:∀ (m:More),Calls Tryz.prog 36 #[.pointer (some ⟨g,0,none⟩),.string ⟨#[92,41]⟩] (more wx m) fun e w'=>e=.returned (.bool false)∧Grows (more wx m) w':=fun m=>is_at (HS.out.grows ⟨m,rfl⟩) hl [92,41] (by decide) ⟨#[92,41]⟩ rfl false hcl
     have HCL:=Lib.hid hcl
     clear hcl
     by_cases h9:900≤t.groups
     ·have hV2:R=some (acc,t):=by rw [HV.out,if_pos (.inr h9)];simp [Fr.app_nil]
      have e9:decide (t.groups < 900)=false:=by rw [decide_eq_false_iff_not];omega
      have e9i:decide ((t.groups:Int) < 900)=false:=by rw [decide_eq_false_iff_not];omega
      clear h9
      go_upto_region 3 with fail
      refine region_grows (by kernel_rfl) (by kernel_rfl) ?_
      repeat (go_big_quiet_step ((go_at_call 36;exact calls_grows (qis _))))
      refine wpQuiet_nil ?_
      intro _ hw'
      obtain ⟨m1,rfl⟩:=hw'
      go_wp2_with fail
      rw [hV2]
      go_ret
      exact ⟨A0,cap0,by rw [HACC.out];rfl,HF0.out.grows ⟨m1,rfl⟩,⟨at2,HS.out.grows ⟨m1,rfl⟩⟩,HB.out.chg.trans (Chg.of_grows ⟨m1,rfl⟩)⟩
     ·have e9:t.groups < 900:=by omega
      have e9i:(t.groups:Int) < 900:=by omega
      have hstop:¬ (stopV t.left=true∨900≤t.groups):=fun h=>by
       rcases h with h | h
       ·unfold stopV at h;rw [HCL.out,HLC.out] at h;simp at h
       ·exact h9 h
      have HVR:Hid (R=(((partR (rowR m true false) fst begun t).bind fun y=>(moreR y.1 y.2).bind fun z=>(rowR m false (y.1.1.kind == 4) z.2).map fun r=>(Fr.cons z.1.1 z.1.2 r.1,r.2)).map fun y=>(acc.app y.1,y.2))):=Lib.hid (by have:=HV.out;rw [if_neg hstop] at this;exact this)
      clear h9 hstop HV HEND HF0
      go_upto_region 3 with fail
      refine region_grows (by kernel_rfl) (by kernel_rfl) ?_
      repeat (go_big_quiet_step ((go_at_call 36;exact calls_grows (qis _))))
      refine wpQuiet_nil ?_
      intro _ hw'
      obtain ⟨m1,rfl⟩:=hw'
      have LB1:=Lib.hid (HB.out.step (Chg.of_grows ⟨m1,rfl⟩))
      have S1:=Lib.hid (HS.out.grows ⟨m1,rfl⟩)
      clear HB HS c0 c1 c2 c5 ig ff elt e9 e9i qis
      generalize more wx m1=w1 at *
      have hcall:=rpart_any S1.out hl fst begun HLC.out (rowR m true false) (fun t' at' w' ht hS=>HW.out m (by have:=HMN2.out;omega) t' at' w' (by have:=HM.out;omega) hS)
      go_wp2_with fail
      (with_reducible refine hcall.mono ?_)
      intro e w2 hp
      obtain ⟨x,A2,k2,cp2,at3,t3,b3,rfl,hS2,hC2,hK2⟩:=times_got hp
      clear hcall hp
      have LB2:=Lib.hid (LB1.out.step hC2)
      have S2:=Lib.hid hS2
      have hw1:w.heap.size≤w1.heap.size:=LB1.out.chg.size
      have hw12:w1.heap.size≤w2.heap.size:=hC2.size
      have hob:∀ b,(Value.slice A0 N cap0).ownBlock=some b→b < w1.heap.size:=fun b hb=>(own_ltB LB1.out.own hb).1
      have HOB:=Lib.hid hob
      have K2:=Lib.hid (hK2.chg (ok2:=fun b=>b≠g∧w1.heap.size≤b) (Chg.of_grows (p:=fun _=>False) (Grows.refl _)) (fun _ _ _ h=>h) (fun b h=>h))
      clear hS2 hC2 hK2 hob
      go_upto_region 5 with fail
      obtain ⟨xb,hxb⟩:∃ z,z=w2.heap.size:=⟨_,rfl⟩
      have LB3:=Lib.hid (LB2.out.avoid (o:=.cells (ndC x (.slice A2 k2 cp2)) 91) hxb)
      have S3:=Lib.hid (S2.out.grows ((Grows.refl _).alloc (.cells (ndC x (.slice A2 k2 cp2)) 91)))
      have hb3:blk (w2.alloc (.cells (ndC x (.slice A2 k2 cp2)) 91)) xb=ndC x (.slice A2 k2 cp2):=blk_alloc_at _ _ _ _ hxb
      have K3:=Lib.hid ((show NkK (fun b=>(b≠g∧w1.heap.size≤b)∧b≠xb) w2 (partR (rowR m true false) fst begun t) x A2 k2 cp2 t3 b3 from by
       rcases K2.out with k | ⟨k1,f,k3,k4,k5⟩
       ·exact .inl k
       ·exact .inr ⟨k1,f,k3,k4,k5.mono fun b hb h=>⟨h,by omega⟩⟩).chg (ok2:=fun b=>(b≠g∧w1.heap.size≤b)∧b≠xb) (Chg.of_grows (p:=fun _=>False) ((Grows.refl _).alloc (.cells (ndC x (.slice A2 k2 cp2)) 91))) (fun _ _ _ h=>h) (fun b h=>h))
      have hxw:w1.heap.size≤xb:=by omega
      have hz3:(w2.alloc (.cells (ndC x (.slice A2 k2 cp2)) 91)).heap.size=xb+1:=by simp [hxb]
      rw [← hxb]
      generalize w2.alloc (.cells (ndC x (.slice A2 k2 cp2)) 91)=w3 at *
      clear LB2 S2 K2 LB1 S1 hxb hw12 w2
      have ix3:InHeap xb w3:=Blk.inHeap hb3 (by simp [ndA_size])
      have x0:=(Blk.cell hb3 (by simp [ndA_size]) 0).trans (ndA_0 _ _ _ _ _ _ _)
      have ig:=S3.out.inh
      obtain ⟨-,-,-,-,-,c5⟩:=S3.out.rd.cells
      obtain ⟨kb,hkb⟩:∃ b:Bool,(x.kind == 4)=b:=⟨_,rfl⟩
      have hkbi:((x.kind:Int) == 4)=kb:=by rw [← hkb,Bool.eq_iff_iff];simp;omega
      have HKB:=Lib.hid hkb
      have HZ3:=Lib.hid hz3
      clear hkb hz3
      cases b3 with
      | true =>
       have HRN:R=none:=by
        rw [HVR.out]
        rcases K3.out with ⟨-,k⟩ | ⟨k,-⟩
        ·rw [k];rfl
        ·cases k
       have hgk:Grows w3 (w3.alloc (.cells (ndC x (.slice A2 k2 cp2)) 91)):=(Grows.refl _).alloc _
       have LBk:=Lib.hid (LB3.out.step (Chg.of_grows hgk))
       have Sk:=Lib.hid (S3.out.grows hgk)
       have hbk:blk (w3.alloc (.cells (ndC x (.slice A2 k2 cp2)) 91)) w3.heap.size=ndC x (.slice A2 k2 cp2):=blk_alloc_at _ _ _ _ rfl
       have hzk:w.heap.size≤(w3.alloc (.cells (ndC x (.slice A2 k2 cp2)) 91)).heap.size:=LBk.out.chg.size
       have hon:(w3.alloc (.cells (ndC x (.slice A2 k2 cp2)) 91)).ownsRow w.heap.size 91 262 (.slice A0 N cap0) N xs:=by have:=LBk.out.own;rw [HACC.out] at this;exact this
       have hn6:N≤1000000:=by omega
       clear hgk
       go_wp2_with (at_builtin;go_must (refine wpList_append_nodeR (.tmp 62) (.tmp 64) w.heap.size (.slice A0 N cap0) N xs w3.heap.size (ndC x (.slice A2 k2 cp2)) rfl rfl (by simp [Act.eval,Act.put]) hon (by simp [Act.eval,Act.put]) hbk (ndA_size _ _ _ _ _ _ _) (ndA_one_slice _ _ _ _ _ _ _ _ _) hn6 hzk ?_;intro e9 cap9 w9 hown9 hC9 hl9))
       have S9:=Sk.out.chg hC9 (fun e=>(LBk.out.ne g e).1 rfl)
       have C9:=chg_late LBk.out.chg hC9 fun b hb e=>by have:=(own_ltB LBk.out.own e).2;omega
       go_roundg 0
       case measure=>have:=HQ.out;omega
       case rel=>exact .inr ⟨_,_,_,at3,t3,kb,rfl,rfl,rfl,HRN,S9,C9⟩
      | false =>
       obtain ⟨f,hf1,hf2,hf3⟩:∃ f,partR (rowR m true false) fst begun t=some ((x,f),t3)∧k2=f.len∧FrAt (fun b=>(b≠g∧w1.heap.size≤b)∧b≠xb) w3 A2 cp2 f:=by
        rcases K3.out with ⟨k,-⟩ | ⟨-,f,k⟩
        ·cases k
        ·exact ⟨f,k⟩
       have hlt:=part_less (row_less m true false) hf1
       simp only [] at hlt
       have HLT:=Lib.hid hlt
       subst hf2
       have HF:=Lib.hid hf3
       have HF1:=Lib.hid hf1
       clear K3 hf3 hf1 hlt
       by_cases k4:x.kind=4
       ·have hkt:kb=true:=by rw [← HKB.out,k4];rfl
        subst hkt
        have hm1:moreR (x,f) t3=some ((x,f),t3):=by unfold moreR;rw [if_pos (.inl k4)]
        have HRS:Hid (R=((rowR m false true t3).map fun y=>((acc.app (Fr.one x f)).app y.1,y.2))):=Lib.hid (by
         rw [HVR.out,HF1.out,Option.bind_some,hm1,Option.bind_some,HKB.out]
         cases rowR m false true t3 with
         | none=>rfl
         | some y=>simp only [Option.map_some,Fr.app_assoc];rfl)
        have b4:((x.kind:Int) != 4)=false:=by simp;omega
        clear hm1 k4
        go_upto_region 8 with fail
        clear b4 hkbi x0
        have hgk:Grows w3 (w3.alloc (.cells (ndC x (.slice A2 f.len cp2)) 91)):=(Grows.refl _).alloc _
        have LBk:=Lib.hid (LB3.out.step (Chg.of_grows hgk))
        have Sk:=Lib.hid (S3.out.grows hgk)
        have hbk:blk (w3.alloc (.cells (ndC x (.slice A2 f.len cp2)) 91)) w3.heap.size=ndC x (.slice A2 f.len cp2):=blk_alloc_at _ _ _ _ rfl
        have hzk:w.heap.size≤(w3.alloc (.cells (ndC x (.slice A2 f.len cp2)) 91)).heap.size:=LBk.out.chg.size
        have hon:(w3.alloc (.cells (ndC x (.slice A2 f.len cp2)) 91)).ownsRow w.heap.size 91 262 (.slice A0 N cap0) N xs:=by have:=LBk.out.own;rw [HACC.out] at this;exact this
        have hn6:N≤1000000:=by omega
        have Fk:=Lib.hid (HF.out.grows hgk)
        clear hgk
        go_wp2_with (at_builtin;go_must (refine wpList_append_nodeR (.tmp 62) (.tmp 64) w.heap.size (.slice A0 N cap0) N xs w3.heap.size (ndC x (.slice A2 f.len cp2)) rfl rfl (by simp [Act.eval,Act.put]) hon (by simp [Act.eval,Act.put]) hbk (ndA_size _ _ _ _ _ _ _) (ndA_one_slice _ _ _ _ _ _ _ _ _) hn6 hzk ?_;intro e9 cap9 w9 hown9 hC9 hl9))
        have S9:=Sk.out.chg hC9 (fun e=>(LBk.out.ne g e).1 rfl)
        have LB9:=LBk.out.push (e:=e9) (cap:=cap9) (A:=A2) (c:=cp2) (x:=x) (k:=f) hgl (by rw [HACC.out];exact hown9) hC9 hl9 (Fk.out.mono fun b _ h=>⟨⟨h.1.1,by have:=h.1.2;omega⟩,fun e=>by have:=HOB.out b e;have:=h.1.2;omega⟩)
        rw [HACC.out] at LB9
        have hlen9:(acc.app (Fr.one x f)).len=N+1:=by rw [Fr.len_app,HACC.out];rfl
        go_roundg (m+1)
        case measure=>have:=HQ.out;omega
        case rel=>exact .inl ⟨_,acc.app (Fr.one x f),xs++(ndC x (.slice A2 f.len cp2)).toList,t3,true,at3,m,rfl,rfl,rfl,LB9,S9,by rw [hlen9];exact HRS.out,by have:=HM.out;have:=HLT.out;omega,HMN.out,by rw [hlen9];have:=HLN.out;have:=HLT.out;omega⟩
       by_cases k5:x.kind=5
       ·have hkt:kb=false:=by rw [← HKB.out,k5];rfl
        subst hkt
        have b4:((x.kind:Int) != 4)=true:=by simp;omega
        have b5:((x.kind:Int) != 5)=false:=by simp;omega
        have hm1:moreR (x,f) t3=some ((x,f),t3):=by unfold moreR;rw [if_pos (.inr k5)]
        have HRS:Hid (R=((rowR m false false t3).map fun y=>((acc.app (Fr.one x f)).app y.1,y.2))):=Lib.hid (by
         rw [HVR.out,HF1.out,Option.bind_some,hm1,Option.bind_some,HKB.out]
         cases rowR m false false t3 with
         | none=>rfl
         | some y=>simp only [Option.map_some,Fr.app_assoc];rfl)
        clear hm1 k4 k5
        go_upto_region 8 with fail
        clear b4 b5 hkbi x0
        have hgk:Grows w3 (w3.alloc (.cells (ndC x (.slice A2 f.len cp2)) 91)):=(Grows.refl _).alloc _
        have LBk:=Lib.hid (LB3.out.step (Chg.of_grows hgk))
        have Sk:=Lib.hid (S3.out.grows hgk)
        have hbk:blk (w3.alloc (.cells (ndC x (.slice A2 f.len cp2)) 91)) w3.heap.size=ndC x (.slice A2 f.len cp2):=blk_alloc_at _ _ _ _ rfl
        have hzk:w.heap.size≤(w3.alloc (.cells (ndC x (.slice A2 f.len cp2)) 91)).heap.size:=LBk.out.chg.size
        have hon:(w3.alloc (.cells (ndC x (.slice A2 f.len cp2)) 91)).ownsRow w.heap.size 91 262 (.slice A0 N cap0) N xs:=by have:=LBk.out.own;rw [HACC.out] at this;exact this
        have hn6:N≤1000000:=by omega
        have Fk:=Lib.hid (HF.out.grows hgk)
        clear hgk
        go_wp2_with (at_builtin;go_must (refine wpList_append_nodeR (.tmp 62) (.tmp 64) w.heap.size (.slice A0 N cap0) N xs w3.heap.size (ndC x (.slice A2 f.len cp2)) rfl rfl (by simp [Act.eval,Act.put]) hon (by simp [Act.eval,Act.put]) hbk (ndA_size _ _ _ _ _ _ _) (ndA_one_slice _ _ _ _ _ _ _ _ _) hn6 hzk ?_;intro e9 cap9 w9 hown9 hC9 hl9))
        have S9:=Sk.out.chg hC9 (fun e=>(LBk.out.ne g e).1 rfl)
        have LB9:=LBk.out.push (e:=e9) (cap:=cap9) (A:=A2) (c:=cp2) (x:=x) (k:=f) hgl (by rw [HACC.out];exact hown9) hC9 hl9 (Fk.out.mono fun b _ h=>⟨⟨h.1.1,by have:=h.1.2;omega⟩,fun e=>by have:=HOB.out b e;have:=h.1.2;omega⟩)
        rw [HACC.out] at LB9
        have hlen9:(acc.app (Fr.one x f)).len=N+1:=by rw [Fr.len_app,HACC.out];rfl
        go_roundg (m+1)
        case measure=>have:=HQ.out;omega
        case rel=>exact .inl ⟨_,acc.app (Fr.one x f),xs++(ndC x (.slice A2 f.len cp2)).toList,t3,false,at3,m,rfl,rfl,rfl,LB9,S9,by rw [hlen9];exact HRS.out,by have:=HM.out;have:=HLT.out;omega,HMN.out,by rw [hlen9];have:=HLN.out;have:=HLT.out;omega⟩
       have hkt:kb=false:=by rw [← HKB.out,beq_eq_false_iff_ne];exact k4
       subst hkt
       have b4:((x.kind:Int) != 4)=true:=by simp;omega
       have b5:((x.kind:Int) != 5)=true:=by simp;omega
       have hm1:moreR (x,f) t3=timesR (t3.left.length+1) (x,f) t3:=by unfold moreR;rw [if_neg (by simp only [];omega)]
       have HM1:=Lib.hid hm1
       clear hm1 k4 k5
       have hcall:=rtimes_any S3.out hl (x,f) A2 cp2 (p:=fun b=>(b≠g∧w1.heap.size≤b)∧b≠xb) (fun b h=>h.1.1) (fun b h=>by have:=HZ3.out;exact ⟨⟨by omega,by omega⟩,by omega⟩) HF.out
       have HCALL:=Lib.hid hcall
       clear hcall
       go_upto_region 7 with fail
       clear b4 b5 hkbi x0
       go_wp2_with fail
       have hcall:=HCALL.out
       (with_reducible refine hcall.mono ?_)
       intro e w4 hp
       obtain ⟨x4,A4,k4,cp4,at4,t4,b4,rfl,hS4,hC4,hK4⟩:=times_got hp
       clear hcall hp
       have hxg:¬ xb=g:=by omega
       have hb4:=(chg_blk hC4 ix3 hxg).trans hb3
       have i4:InHeap xb w4:=Blk.inHeap hb4 (by simp [ndA_size])
       have LB4:=Lib.hid (LB3.out.step hC4)
       have S4:=Lib.hid hS4
       have K4:=Lib.hid hK4
       clear hS4 hK4 hC4 LB3 S3 HF ix3 ig c5 hb3 HZ3 HCALL
       go_upto_region 8 with fail
       have hcs:Chg (fun b=>b=xb) w4 (setBlk w4 xb (ndC x4 (.slice A4 k4 cp4))):=chg_row
       have LB5:=Lib.hid (LB4.out.setx hcs (by omega))
       have S5:=Lib.hid (S4.out.chg hcs (fun e=>hxg e.symm))
       have hb5:blk (setBlk w4 xb (ndC x4 (.slice A4 k4 cp4))) xb=ndC x4 (.slice A4 k4 cp4):=Blk.get _ hb4 (by simp [ndA_size])
       have K5:=Lib.hid (K4.out.chg (ok2:=fun b=>(b≠g∧w1.heap.size≤b)∧b≠xb) hcs (fun b _ h=>h.2) (fun b h=>h))
       clear hcs LB4 S4 K4 hb4 i4
       generalize setBlk w4 xb (ndC x4 (.slice A4 k4 cp4))=w5 at *
       have i5:InHeap xb w5:=Blk.inHeap hb5 (by simp [ndA_size])
       cases b4 with
       | true =>
        have HRN:R=none:=by
         rw [HVR.out,HF1.out,Option.bind_some,HM1.out]
         rcases K5.out with ⟨-,k⟩ | ⟨k,-⟩
         ·rw [k];rfl
         ·cases k
        have hgk:Grows w5 (w5.alloc (.cells (ndC x4 (.slice A4 k4 cp4)) 91)):=(Grows.refl _).alloc _
        have LBk:=Lib.hid (LB5.out.step (Chg.of_grows hgk))
        have Sk:=Lib.hid (S5.out.grows hgk)
        have hbk:blk (w5.alloc (.cells (ndC x4 (.slice A4 k4 cp4)) 91)) w5.heap.size=ndC x4 (.slice A4 k4 cp4):=blk_alloc_at _ _ _ _ rfl
        have hzk:w.heap.size≤(w5.alloc (.cells (ndC x4 (.slice A4 k4 cp4)) 91)).heap.size:=LBk.out.chg.size
        have hon:(w5.alloc (.cells (ndC x4 (.slice A4 k4 cp4)) 91)).ownsRow w.heap.size 91 262 (.slice A0 N cap0) N xs:=by have:=LBk.out.own;rw [HACC.out] at this;exact this
        have hn6:N≤1000000:=by omega
        clear hgk
        go_wp2_with (at_builtin;go_must (refine wpList_append_nodeR (.tmp 62) (.tmp 64) w.heap.size (.slice A0 N cap0) N xs w5.heap.size (ndC x4 (.slice A4 k4 cp4)) rfl rfl (by simp [Act.eval,Act.put]) hon (by simp [Act.eval,Act.put]) hbk (ndA_size _ _ _ _ _ _ _) (ndA_one_slice _ _ _ _ _ _ _ _ _) hn6 hzk ?_;intro e9 cap9 w9 hown9 hC9 hl9))
        have S9:=Sk.out.chg hC9 (fun e=>(LBk.out.ne g e).1 rfl)
        have C9:=chg_late LBk.out.chg hC9 fun b hb e=>by have:=(own_ltB LBk.out.own e).2;omega
        go_roundg 0
        case measure=>have:=HQ.out;omega
        case rel=>exact .inr ⟨_,_,_,at4,t4,false,rfl,rfl,rfl,HRN,S9,C9⟩
       | false =>
        obtain ⟨f4,hf1,hf2,hf3⟩:∃ f4,timesR (t3.left.length+1) (x,f) t3=some ((x4,f4),t4)∧k4=f4.len∧FrAt (fun b=>(b≠g∧w1.heap.size≤b)∧b≠xb) w5 A4 cp4 f4:=by
         rcases K5.out with ⟨k,-⟩ | ⟨-,f,k⟩
         ·cases k
         ·exact ⟨f,k⟩
        have hlt:=times_less hf1
        simp only [] at hlt
        subst hf2
        have HF:=Lib.hid hf3
        have HLT4:Hid (t4.left.length < t.left.length):=Lib.hid (by have:=HLT.out;omega)
        have HRS:Hid (R=((rowR m false false t4).map fun y=>((acc.app (Fr.one x4 f4)).app y.1,y.2))):=Lib.hid (by
         rw [HVR.out,HF1.out,Option.bind_some,HM1.out,hf1,Option.bind_some,HKB.out]
         cases rowR m false false t4 with
         | none=>rfl
         | some y=>simp only [Option.map_some,Fr.app_assoc];rfl)
        clear K5 hf3 hf1 hlt
        have hgk:Grows w5 (w5.alloc (.cells (ndC x4 (.slice A4 f4.len cp4)) 91)):=(Grows.refl _).alloc _
        have LBk:=Lib.hid (LB5.out.step (Chg.of_grows hgk))
        have Sk:=Lib.hid (S5.out.grows hgk)
        have hbk:blk (w5.alloc (.cells (ndC x4 (.slice A4 f4.len cp4)) 91)) w5.heap.size=ndC x4 (.slice A4 f4.len cp4):=blk_alloc_at _ _ _ _ rfl
        have hzk:w.heap.size≤(w5.alloc (.cells (ndC x4 (.slice A4 f4.len cp4)) 91)).heap.size:=LBk.out.chg.size
        have hon:(w5.alloc (.cells (ndC x4 (.slice A4 f4.len cp4)) 91)).ownsRow w.heap.size 91 262 (.slice A0 N cap0) N xs:=by have:=LBk.out.own;rw [HACC.out] at this;exact this
        have hn6:N≤1000000:=by omega
        have Fk:=Lib.hid (HF.out.grows hgk)
        clear hgk
        go_wp2_with (at_builtin;go_must (refine wpList_append_nodeR (.tmp 62) (.tmp 64) w.heap.size (.slice A0 N cap0) N xs w5.heap.size (ndC x4 (.slice A4 f4.len cp4)) rfl rfl (by simp [Act.eval,Act.put]) hon (by simp [Act.eval,Act.put]) hbk (ndA_size _ _ _ _ _ _ _) (ndA_one_slice _ _ _ _ _ _ _ _ _) hn6 hzk ?_;intro e9 cap9 w9 hown9 hC9 hl9))
        have S9:=Sk.out.chg hC9 (fun e=>(LBk.out.ne g e).1 rfl)
        have LB9:=LBk.out.push (e:=e9) (cap:=cap9) (A:=A4) (c:=cp4) (x:=x4) (k:=f4) hgl (by rw [HACC.out];exact hown9) hC9 hl9 (Fk.out.mono fun b _ h=>⟨⟨h.1.1,by have:=h.1.2;omega⟩,fun e=>by have:=HOB.out b e;have:=h.1.2;omega⟩)
        rw [HACC.out] at LB9
        have hlen9:(acc.app (Fr.one x4 f4)).len=N+1:=by rw [Fr.len_app,HACC.out];rfl
        go_roundg (m+1)
        case measure=>have:=HQ.out;omega
        case rel=>exact .inl ⟨_,acc.app (Fr.one x4 f4),xs++(ndC x4 (.slice A4 f4.len cp4)).toList,t4,false,at4,m,rfl,rfl,rfl,LB9,S9,by rw [hlen9];exact HRS.out,by have:=HM.out;have:=HLT4.out;omega,HMN.out,by rw [hlen9];have:=HLN.out;have:=HLT4.out;omega⟩
  ·have HQ:=Lib.hid hq
   obtain ⟨-,-,-,-,-,c5⟩:=hS.rd.cells
   have ig:=hS.inh
   have HS:=Lib.hid hS
   have HC:=Lib.hid hC
   have HV:=Lib.hid hV
   clear hq hS hC hV
   go_upto_region 3 with fail
   refine region_grows (by kernel_rfl) (by kernel_rfl) ?_
   repeat (go_big_quiet_step (fail))
   refine wpQuiet_nil ?_
   intro _ hw'
   obtain ⟨m1,rfl⟩:=hw'
   go_wp2_with fail
   rw [HV.out]
   go_ret
   exact ⟨⟨_,_,_,rfl⟩,⟨at2,t,HS.out.grows ⟨m1,rfl⟩⟩,HC.out.trans (Chg.of_grows ⟨m1,rfl⟩)⟩
theorem rrow_any (n:Nat):∀ (t:RdS) (at2:Nat) (w:World),s.length≤1000→t.left.length < n→StAt w g s at2 t false→Calls Tryz.prog 20 #[.pointer (some ⟨g,0,none⟩)] w (RowR w g s (rowR n true false t)):=by
 induction n using Nat.strongRecOn with
 | ind n ih=>exact fun t at2 w hl hn h=>rrow_of h hl n hn (fun k hk t at2 w ht hS=>ih k hk t at2 w hl ht hS)
end
end Go.Proofs.YtnjagecmhdagkaaGreatDoor
