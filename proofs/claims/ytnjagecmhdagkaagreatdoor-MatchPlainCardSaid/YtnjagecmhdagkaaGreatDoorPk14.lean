/-
 Patterns: a row, walked.
-/
import Derived.Test.YtnjagecmhdagkaaGreatDoorPk13
set_option linter.unusedSimpArgs false
set_option linter.unusedVariables false
set_option maxRecDepth 3000
namespace Go.Proofs.YtnjagecmhdagkaaGreatDoor
open Go.RowKit
attribute [local go_sem ↓] zeroNode bldNd_eq ldNode_eq stNode_eq bldSl_eq
attribute [local go_sem] bld_kind bld_byte bld_set bld_n bld_star bld_times loadNode loadNode_if storeNode storeNode_if ndA_one_slice ndA_0 ndA_258 ndA_261 tx_bt tx_from bldSl_run
theorem timesV_kind (n:Nat):∀ {x:Nk} {s:PS} {y:Nk × PS},timesV n x s=some y→y.1.1.kind=x.1.kind∨y.1.1.kind=8:=by
 induction n with
 | zero=>intro x s y h;cases h
 | succ n ih =>
  intro x s y h
  unfold timesV at h
  split at h
  ·rw [Option.bind_eq_some_iff] at h
   obtain ⟨t,h1,h2⟩:=h
   exact .inr ((ih h2).elim id id)
  ·split at h
   ·rw [Option.bind_eq_some_iff] at h
    obtain ⟨b,hb,h⟩:=h
    rw [Option.bind_eq_some_iff] at h
    obtain ⟨t,h1,h2⟩:=h
    exact .inr ((ih h2).elim id id)
   ·injection h with h;subst h;exact .inl rfl
theorem more1_kind {x:Nk} {s:PS} {y:Nk × PS} (h:more1 x s=some y):(y.1.1.kind == 4)=(x.1.kind == 4):=by
 unfold more1 at h
 split at h
 ·injection h with h;subst h;rfl
 ·rename_i hk
  rcases timesV_kind _ h with h1 | h1
  ·rw [h1]
  ·rw [h1]
   symm
   rw [show ((8:Nat) == 4)=false from rfl,beq_eq_false_iff_ne]
   exact fun e=>hk (.inl e)
theorem infoNode:∃ i,Tryz.prog.info? 95=some i∧i.zero=some (.agg zN)∧i.size=262∧i.bytes=320:=by
 have h1:(Tryz.prog.info? 95).map (·.bytes)=some 320:=by kernel_rfl
 have h2:(Tryz.prog.info? 95).map (·.size)=some 262:=by kernel_rfl
 have h3:(Tryz.prog.info? 95).map (·.zero)=some (some (.agg zN)):=by kernel_rfl
 cases hq:Tryz.prog.info? 95 with
 | none=>rw [hq] at h1;cases h1
 | some i =>
  rw [hq] at h1 h2 h3
  exact ⟨i,rfl,Option.some.inj h3,Option.some.inj h2,Option.some.inj h1⟩
theorem wpList_append_node {ops:Array Oper} {rest:List Oper} {o:Oper} {a:Act} {Q:Exit→Act→World→Prop} {w:World} (s x:Operand) (base:Nat) (v:Value) (n:Nat) (xs:List Value) (kb:Nat) (c:Array Value)
  (hgd:o.guard=none) (ho:o.op=.call { callee:=.builtin .append,args:=#[s,x],argTypes:=#[48,48] })
  (hs:a.eval s=v) (hown:w.ownsRow base 95 262 v n xs) (hx:a.eval x=.slice (some ⟨kb,0,none⟩) 1 1) (hb:blk w kb=c) (hc:c.size=262) (h1:OneCells c) (hn:n≤1000000) (hbase:base≤w.heap.size)
  (h:∀ e cap w',w'.ownsRow base 95 262 (.slice (some ⟨e,0,none⟩) (n+1) cap) (n+1) (xs++c.toList)→Chg (fun b=>v.ownBlock=some b) w w'→(v.ownBlock=some e∨w.heap.size≤e)→wpList Tryz.prog ops Q rest (a.put o.dst (.slice (some ⟨e,0,none⟩) (n+1) cap)) w'):wpList Tryz.prog ops Q (o::rest) a w:=by
 obtain ⟨i0,hi,hz0,hz1,hz2⟩:=infoNode
 refine wpList_append_lies w hgd s x 48 ho base 95 i0 (.agg zN) 262 320 Tryz.underlying48 hi hz0 hz1 hz2 (ndA_size _ _ _ _ _ _ _) (by decide) v n xs hs hown ⟨kb,0,none⟩ 1 1 c.toList hx (by simp [hc]) (fun j u hj=>?_) (fun u hu=>?_) (by decide) (by unfold maxLen;omega) (by omega) hbase _ rfl (fun e cap w' a1 a2 a3 _=>h e cap w' a1 (chg_grown a2) (a3.imp id (fun e=>by omega)))
 ·rw [add_off,Nat.zero_add,Blk.cell hb (by omega)]
  simpa using hj
 ·unfold OneCells at h1
  rw [Array.all_eq_true_iff_forall_mem] at h1
  exact h1 u (by simpa using hu)
theorem eq_int (k:Nat) (n:Nat) (b:Bool) (h:decide (k=n)=b):((k:Int) == (n:Int))=b:=by
 rw [← h,Bool.eq_iff_iff];simp;omega
section
variable {base g:Nat} {w w' w1 w2:World} {tv ov:Value} {s t:PS}
set_option maxHeartbeats 600000 in
theorem row_of (h:Pa base w g tv ov s) (hsn:SaneB base w) (hrow:∀ t:PS,t.left.length < s.left.length→RowSpec tv t) :
  Calls Tryz.prog 18 #[.pointer (some ⟨g,0,none⟩)] w (FrPost base g tv ov w (rowF true false s)):=by
 have H:=Lib.hid h
 have HW:=Lib.hid hrow
 have HSN:=Lib.hid hsn
 obtain ⟨R,hR⟩:∃ R,rowF true false s=R:=⟨_,rfl⟩
 have hR2:R=(rowF (decide (Fr.nil.len=0)) false s).map fun y=>(Fr.nil.app y.1,y.2):=by
  rw [← hR]
  cases hq:rowF true false s with
  | none=>rw [show decide (Fr.nil.len=0)=true from rfl,hq];rfl
  | some y=>rw [show decide (Fr.nil.len=0)=true from rfl,hq];rfl
 rw [hR]
 have HR2:=Lib.hid hR2
 have hls:=h.left
 clear h hR hrow hsn hR2
 go_enter Tryz.func18,Tryz.ntmps18
 go_wp2_with fail
 go_loopg [3] (s.left.length+1) (fun q v3 wr=>∃ (ov' lv:Value) (acc:Fr) (xs:List Value) (t:PS) (begun:Bool),q=t.left.length+1∧v3=lv∧RB base g tv ov w (fun _=>False) ov' lv acc xs t wr∧R=((rowF (decide (acc.len=0)) begun t).map fun y=>(acc.app y.1,y.2)) ∧
  acc.len+t.left.length≤s.left.length∧(acc.len=0→begun=false)∧(∀ m,acc.len=m+1→∃ lk:Nat,xs[m*262]?=some (.int .i64 lk)∧begun=(lk == 4)))
 case atStart=>exact ⟨ov,_,.nil,[],s,false,rfl,rfl,RB.start H.out,HR2.out,by simp [Fr.len],fun _=>rfl,fun m hm=>by simp [Fr.len] at hm⟩
 case round =>
  obtain ⟨ov',lv,acc,xs,t,begun,hq,rfl,hB,hV,hln,hb0,hbm⟩:=hrel
  obtain ⟨wx,hwx⟩:∃ z,z=wr:=⟨_,rfl⟩
  subst hwx
  have HQ:=Lib.hid hq
  have HB:=Lib.hid hB
  have HV:=Lib.hid hV
  have HLN:=Lib.hid hln
  have HB0:=Lib.hid hb0
  have HBM:=Lib.hid hbm
  have ig:=hB.pa.inh
  obtain ⟨q0,-⟩:=hB.pa.six
  clear hq hB hV hln hb0 hbm HR2
  cases hst:stopV t.left with
  | true =>
   obtain ⟨A,cap,hlv,hF⟩:=HB.out.ret
   subst hlv
   have hV2:R=some (acc,t):=by rw [HV.out,rowF_eq,if_pos hst];simp [Fr.app_nil]
   have HF:=Lib.hid hF
   clear hF
   cases hl:t.left with
   | nil =>
    rw [hl] at q0
    have he:(tx ([]:List UInt8)).toList.isEmpty=true:=by rw [ByteArray.toList_eq];rfl
    go_wp2_with fail
    subst hV2
    go_ret
    exact ⟨A,cap,ov',rfl,HB.out.pa,HB.out.step,HF.out⟩
   | cons c l =>
    rw [hl] at q0
    have he:(tx (c::l)).toList.isEmpty=false:=by rw [ByteArray.toList_eq,tx_data];rfl
    have ha:ahead [92,41] (c::l)=true:=by rw [← hl];unfold stopV at hst;rw [hl] at hst ⊢;simpa using hst
    go_wp2_with fail
    (with_reducible refine (Tryz.strings_HasPrefix _ _ _).mono ?_)
    rw [tx_data,show Lib.hasPrefix (c::l) (ByteArray.mk #[92,41]).data.toList=true from ha]
    rintro e w1 ⟨rfl,rfl⟩
    go_wp2_with fail
    subst hV2
    go_ret
    exact ⟨A,cap,ov',rfl,HB.out.pa,HB.out.step,HF.out⟩
  | false =>
   cases hl:t.left with
   | nil=>rw [hl] at hst;cases hst
   | cons c l =>
    have ha:ahead [92,41] (c::l)=false:=by rw [← hl];unfold stopV at hst;rw [hl] at hst ⊢;simpa using hst
    have he:(tx (c::l)).toList.isEmpty=false:=by rw [ByteArray.toList_eq,tx_data];rfl
    have HST:=Lib.hid hst
    have HL:=Lib.hid hl
    rw [hl] at q0
    clear hst hl
    obtain ⟨A,cap,hlv,-⟩:=HB.out.ret
    subst hlv
    cases hn:acc.len with
    | zero =>
     rw [hn] at HV
     have hbg:=HB0.out hn
     subst hbg
     go_wp2_with fail
     (with_reducible refine (Tryz.strings_HasPrefix _ _ _).mono ?_)
     rw [tx_data,show Lib.hasPrefix (c::l) (ByteArray.mk #[92,41]).data.toList=false from ha]
     rintro e w1 ⟨rfl,rfl⟩
     go_wp2_with fail
     have hVr:R=((partF true false t).bind fun y=>(more1 y.1 y.2).bind fun z=>(rowF false (y.1.1.kind == 4) z.2).map fun r=>(Fr.cons z.1.1 z.1.2 r.1,r.2)).map fun y=>(acc.app y.1,y.2):=by
      have h9:=HV.out
      rw [rowF_eq,if_neg (by rw [HST.out];decide)] at h9
      exact h9
     have hcall:=part_of HB.out.pa (HSN.out.chg HB.out.step.chg fun b hb=>H.out.own_low hb) true false c l HL.out (fun t' ht=>HW.out t' (by have:=HLN.out;omega))
     cases hp:partF true false t with
     | none =>
      rw [hp] at hcall hVr
      have hV2:R=none:=hVr
      refine hcall.mono ?_
      rintro e w2 ⟨rfl,hc⟩
      subst hV2
      exact ⟨rfl,rfl,chg_late HB.out.step.chg hc fun b hb hk=>(HB.out.step.new b hk).elim id fun h1=>by omega⟩
     | some y =>
      obtain ⟨⟨x,k⟩,t2⟩:=y
      rw [hp] at hcall
      have hkp:=Lib.hid (partF_kept hp).2
      refine hcall.mono ?_
      rintro e w2 ⟨v,ov2,rfl,hP,hS,A2,c2,rfl,hF⟩
      have hob:∀ b,(Value.slice A acc.len cap).ownBlock=some b→b < w1.heap.size:=fun b hb=>(own_ltB HB.out.own hb).1
      have hws:=HB.out.step.chg.size
      have RB2:=Lib.hid (HB.out.part hP hS (fun _ h=>h.elim))
      have F2:Hid (FrAt (fun b=>(w.heap.size≤b∧¬ PaK g ov2 b)∧¬ (Value.slice A acc.len cap).ownBlock=some b) w2 A2 c2 k):=Lib.hid (hF.mono fun b hb h=>⟨⟨by have:=h.1;omega,h.2⟩,fun e=>by have:=hob b e;have:=h.1;omega⟩)
      have hz2:w.heap.size≤w2.heap.size:=Nat.le_trans hws hS.chg.size
      clear hP hS hF hob hcall q0 ig
      obtain ⟨xb,hxb⟩:∃ n,n=w2.heap.size:=⟨_,rfl⟩
      have RB3:=Lib.hid (RB2.out.avoid (o:=.cells (ndC x (.slice A2 k.len c2)) 95) hxb)
      have hb3:blk (w2.alloc (.cells (ndC x (.slice A2 k.len c2)) 95)) xb=ndC x (.slice A2 k.len c2):=blk_alloc_at _ _ _ _ hxb
      have F3:Hid (FrAt (fun b=>((w.heap.size≤b∧¬ PaK g ov2 b)∧¬ (Value.slice A acc.len cap).ownBlock=some b)∧¬ b=xb) (w2.alloc (.cells (ndC x (.slice A2 k.len c2)) 95)) A2 c2 k):=Lib.hid ((F2.out.mono fun b hb h=>⟨h,by omega⟩).grows ((Grows.refl _).alloc _))
      have hxK:Hid (¬ PaK g ov2 xb):=Lib.hid (fun hk=>by have:=RB2.out.pa.own_lt hk;omega)
      have hxW:w.heap.size≤xb:=by omega
      have hz3:(w2.alloc (.cells (ndC x (.slice A2 k.len c2)) 95)).heap.size=xb+1:=by simp [hxb]
      clear RB2 F2
      subst hxb
      go_upto_region 5 with fail
      generalize w2.alloc (.cells (ndC x (.slice A2 k.len c2)) 95)=w3 at *
      have ix3:InHeap w2.heap.size w3:=Blk.inHeap hb3 (by simp [ndA_size])
      have x0:=(Blk.cell hb3 (by simp [ndA_size]) 0).trans (ndA_0 _ _ _ _ _ _ _)
      by_cases k4:x.kind=4
      ·have e4:((x.kind:Int) == 4)=true:=by rw [k4];rfl
       have hm:more1 (x,k) t2=some ((x,k),t2):=by unfold more1;rw [if_pos (.inl k4)]
       have hkk:(x.kind == 4)=(x.kind == 4):=rfl
       have HR9:Hid (R=((rowF (decide (0+1=0)) (x.kind == 4) t2).map fun y=>((acc.app (Fr.one x k)).app y.1,y.2))):=Lib.hid (by
        rw [hVr,hp]
        simp only [Option.bind_some]
        rw [hm]
        simp only [Option.bind_some]
        rw [hkk,show decide (0+1=0)=false from by rw [decide_eq_false_iff_not];omega]
        cases rowF false (x.kind == 4) t2 with
        | none=>rfl
        | some y=>simp only [Option.map_some,Fr.app_assoc];rfl)
       have K4:=Lib.hid k4
       clear k4
       have hk3:Hid (t2.left.length≤t2.left.length):=Lib.hid (Nat.le_refl _)
       clear hm hkk hVr
       have hgk:Grows w3 (w3.alloc (.cells (ndC x (.slice A2 k.len c2)) 95)):=(Grows.refl _).alloc _
       have RBk:=Lib.hid (RB3.out.grows hgk)
       have hbk:blk (w3.alloc (.cells (ndC x (.slice A2 k.len c2)) 95)) (w2.heap.size+1)=ndC x (.slice A2 k.len c2):=blk_alloc_at _ _ _ _ hz3.symm
       have Fk:=Lib.hid (F3.out.grows hgk)
       have hzk:w.heap.size≤(w3.alloc (.cells (ndC x (.slice A2 k.len c2)) 95)).heap.size:=Nat.le_trans RB3.out.step.chg.size hgk.below.size
       have hon:(w3.alloc (.cells (ndC x (.slice A2 k.len c2)) 95)).ownsRow w.heap.size 95 262 (.slice A (0) cap) (0) xs:=by have:=RBk.out.own;rw [hn] at this;exact this
       have hn6:0≤1000000:=by have:=HLN.out;omega
       clear RB3 F3 hgk
       go_wp2_with (at_builtin;go_must (refine wpList_append_node (.tmp 44) (.tmp 46) w.heap.size (.slice A (0) cap) (0) xs (w2.heap.size+1) (ndC x (.slice A2 k.len c2)) rfl rfl (by simp [Act.eval,Act.put]) hon (by simp [Act.eval,Act.put]) hbk (ndA_size _ _ _ _ _ _ _) (ndA_one_slice _ _ _ _ _ _ _ _ _) hn6 hzk ?_;intro e9 cap9 w9 hown9 hC9 hl9))
       have RB9:=Lib.hid (RBk.out.push (e:=e9) (cap:=cap9) (A:=A2) (c:=c2) (x:=x) (k:=k) (by rw [hn];exact hown9) (by rw [hn];exact hC9) (by rw [hn];exact hl9) (Fk.out.mono fun b _ h=>h.1))
       clear RBk Fk hbk hown9 hC9 hl9 hon
       have hlen9:(acc.app (Fr.one x k)).len=0+1:=by rw [Fr.len_app,hn];rfl
       have hxl:xs.length=(0)*262:=by have:=HB.out.own.1;rw [hn] at this;exact this
       go_roundg (t2.left.length+1)
       case measure=>have:=HQ.out;have:=hk3.out;have:=hkp.out;omega
       case rel =>
        refine ⟨ov2,_,acc.app (Fr.one x k),xs++(ndC x (.slice A2 k.len c2)).toList,t2,(x.kind == 4),rfl,rfl,?_,?_,?_,?_,?_⟩
        ·have:=RB9.out;rw [hn] at this;exact this
        ·have h9:=HR9.out;rw [hlen9];exact h9
        ·rw [hlen9];have:=HLN.out;have:=hk3.out;have:=hkp.out;omega
        ·intro h0;rw [hlen9] at h0;omega
        ·intro m9 hm9
         rw [hlen9] at hm9
         have:m9=0:=by omega
         subst this
         refine ⟨x.kind,?_,rfl⟩
         rw [List.getElem?_append_right (by omega),hxl,Nat.sub_self,Array.getElem?_toList]
         exact ndA_0 _ _ _ _ _ _ _
      have e4:((x.kind:Int) == 4)=false:=by rw [beq_eq_false_iff_ne];omega
      by_cases k5:x.kind=5
      ·have e5:((x.kind:Int) == 5)=true:=by rw [k5];rfl
       have hm:more1 (x,k) t2=some ((x,k),t2):=by unfold more1;rw [if_pos (.inr k5)]
       have hkk:(x.kind == 4)=(x.kind == 4):=rfl
       have HR9:Hid (R=((rowF (decide (0+1=0)) (x.kind == 4) t2).map fun y=>((acc.app (Fr.one x k)).app y.1,y.2))):=Lib.hid (by
        rw [hVr,hp]
        simp only [Option.bind_some]
        rw [hm]
        simp only [Option.bind_some]
        rw [hkk,show decide (0+1=0)=false from by rw [decide_eq_false_iff_not];omega]
        cases rowF false (x.kind == 4) t2 with
        | none=>rfl
        | some y=>simp only [Option.map_some,Fr.app_assoc];rfl)
       have K4:=Lib.hid k5
       clear k5
       have hk3:Hid (t2.left.length≤t2.left.length):=Lib.hid (Nat.le_refl _)
       clear hm hkk hVr
       have hgk:Grows w3 (w3.alloc (.cells (ndC x (.slice A2 k.len c2)) 95)):=(Grows.refl _).alloc _
       have RBk:=Lib.hid (RB3.out.grows hgk)
       have hbk:blk (w3.alloc (.cells (ndC x (.slice A2 k.len c2)) 95)) (w2.heap.size+1)=ndC x (.slice A2 k.len c2):=blk_alloc_at _ _ _ _ hz3.symm
       have Fk:=Lib.hid (F3.out.grows hgk)
       have hzk:w.heap.size≤(w3.alloc (.cells (ndC x (.slice A2 k.len c2)) 95)).heap.size:=Nat.le_trans RB3.out.step.chg.size hgk.below.size
       have hon:(w3.alloc (.cells (ndC x (.slice A2 k.len c2)) 95)).ownsRow w.heap.size 95 262 (.slice A (0) cap) (0) xs:=by have:=RBk.out.own;rw [hn] at this;exact this
       have hn6:0≤1000000:=by have:=HLN.out;omega
       clear RB3 F3 hgk
       go_wp2_with (at_builtin;go_must (refine wpList_append_node (.tmp 44) (.tmp 46) w.heap.size (.slice A (0) cap) (0) xs (w2.heap.size+1) (ndC x (.slice A2 k.len c2)) rfl rfl (by simp [Act.eval,Act.put]) hon (by simp [Act.eval,Act.put]) hbk (ndA_size _ _ _ _ _ _ _) (ndA_one_slice _ _ _ _ _ _ _ _ _) hn6 hzk ?_;intro e9 cap9 w9 hown9 hC9 hl9))
       have RB9:=Lib.hid (RBk.out.push (e:=e9) (cap:=cap9) (A:=A2) (c:=c2) (x:=x) (k:=k) (by rw [hn];exact hown9) (by rw [hn];exact hC9) (by rw [hn];exact hl9) (Fk.out.mono fun b _ h=>h.1))
       clear RBk Fk hbk hown9 hC9 hl9 hon
       have hlen9:(acc.app (Fr.one x k)).len=0+1:=by rw [Fr.len_app,hn];rfl
       have hxl:xs.length=(0)*262:=by have:=HB.out.own.1;rw [hn] at this;exact this
       go_roundg (t2.left.length+1)
       case measure=>have:=HQ.out;have:=hk3.out;have:=hkp.out;omega
       case rel =>
        refine ⟨ov2,_,acc.app (Fr.one x k),xs++(ndC x (.slice A2 k.len c2)).toList,t2,(x.kind == 4),rfl,rfl,?_,?_,?_,?_,?_⟩
        ·have:=RB9.out;rw [hn] at this;exact this
        ·have h9:=HR9.out;rw [hlen9];exact h9
        ·rw [hlen9];have:=HLN.out;have:=hk3.out;have:=hkp.out;omega
        ·intro h0;rw [hlen9] at h0;omega
        ·intro m9 hm9
         rw [hlen9] at hm9
         have:m9=0:=by omega
         subst this
         refine ⟨x.kind,?_,rfl⟩
         rw [List.getElem?_append_right (by omega),hxl,Nat.sub_self,Array.getElem?_toList]
         exact ndA_0 _ _ _ _ _ _ _
      have e5:((x.kind:Int) == 5)=false:=by rw [beq_eq_false_iff_ne];omega
      have hm:more1 (x,k) t2=timesF (x,k) t2:=by unfold more1;rw [if_neg (by simp only [];omega)]
      have K45:=Lib.hid (And.intro k4 k5)
      clear k4 k5
      go_wp2_with fail
      have htm:=times_any RB3.out.pa (ok:=fun b=>((w.heap.size≤b∧¬ PaK g ov2 b)∧¬ (Value.slice A acc.len cap).ownBlock=some b)∧¬ b=w2.heap.size) (fun b hb e=>hb.1.1.2 (.inl e)) (x,k) A2 c2 F3.out
      clear x0
      cases htf:timesF (x,k) t2 with
      | none =>
       rw [htf] at htm
       have hV2:R=none:=by rw [hVr,hp];simp only [Option.bind_some];rw [hm,htf];rfl
       refine htm.mono ?_
       rintro e w4 ⟨rfl,hc⟩
       subst hV2
       exact ⟨rfl,rfl,chg_late RB3.out.step.chg hc fun b hb e=>.inl (e ▸ rfl)⟩
      | some z =>
       obtain ⟨⟨x3,k3⟩,t3⟩:=z
       rw [htf] at htm
       have hmm:more1 (x,k) t2=some ((x3,k3),t3):=hm.trans htf
       have hkk:(x.kind == 4)=(x3.kind == 4):=(more1_kind hmm).symm
       have HR9:Hid (R=((rowF (decide (0+1=0)) (x3.kind == 4) t3).map fun y=>((acc.app (Fr.one x3 k3)).app y.1,y.2))):=Lib.hid (by
        rw [hVr,hp]
        simp only [Option.bind_some]
        rw [hmm]
        simp only [Option.bind_some]
        rw [hkk,show decide (0+1=0)=false from by rw [decide_eq_false_iff_not];omega]
        cases rowF false (x3.kind == 4) t3 with
        | none=>rfl
        | some y=>simp only [Option.map_some,Fr.app_assoc];rfl)
       have hk3:Hid (t3.left.length≤t2.left.length):=Lib.hid (timesV_kept htf).le
       refine htm.mono ?_
       rintro e w4 ⟨v,rfl,hP,hC,A3,c3,rfl,hF⟩
       have RB4:=Lib.hid (RB3.out.part hP (StepP.of_chg (hC.mono fun b _ e=>(.inl e:PaK g ov2 b))) (fun b hb=>hb ▸ ix3))
       have hxg:¬ w2.heap.size=g:=fun e=>hxK.out (.inl e)
       have hb4:=(chg_blk hC ix3 hxg).trans hb3
       have F4:Hid (FrAt (fun b=>((w.heap.size≤b∧¬ PaK g ov2 b)∧¬ (Value.slice A acc.len cap).ownBlock=some b)∧¬ b=w2.heap.size) w4 A3 c3 k3):=Lib.hid (hF.mono fun b hb h=>by
        rcases h with h | h
        ·exact h
        ·exact ⟨⟨⟨by omega,fun hk=>by have:=RB3.out.pa.own_lt hk;omega⟩,fun e=>by have:=(own_ltB RB3.out.own e).1;omega⟩,by omega⟩)
       have i4:InHeap w2.heap.size w4:=Blk.inHeap hb4 (by simp [ndA_size])
       clear hP hC hF htm htf hm hmm hkk hVr RB3 F3 hb3 ix3
       go_upto_region 9 with fail
       have RB5:=Lib.hid (RB4.out.setx (chg_row (c:=ndC x3 (.slice A3 k3.len c3))) hxK.out hxW)
       have hb5:blk (setBlk w4 w2.heap.size (ndC x3 (.slice A3 k3.len c3))) w2.heap.size=ndC x3 (.slice A3 k3.len c3):=Blk.get _ hb4 (by simp [ndA_size])
       have F5:=Lib.hid (F4.out.chg (chg_row (w:=w4) (g:=w2.heap.size) (c:=ndC x3 (.slice A3 k3.len c3))) fun b _ h=>h.2)
       clear RB4 F4 hb4
       generalize setBlk w4 w2.heap.size (ndC x3 (.slice A3 k3.len c3))=w5 at *
       have i5:InHeap w2.heap.size w5:=Blk.inHeap hb5 (by simp [ndA_size])
       have hgk:Grows w5 (w5.alloc (.cells (ndC x3 (.slice A3 k3.len c3)) 95)):=(Grows.refl _).alloc _
       have RBk:=Lib.hid (RB5.out.grows hgk)
       have hbk:blk (w5.alloc (.cells (ndC x3 (.slice A3 k3.len c3)) 95)) (w5.heap.size)=ndC x3 (.slice A3 k3.len c3):=blk_alloc_at _ _ _ _ rfl
       have Fk:=Lib.hid (F5.out.grows hgk)
       have hzk:w.heap.size≤(w5.alloc (.cells (ndC x3 (.slice A3 k3.len c3)) 95)).heap.size:=Nat.le_trans RB5.out.step.chg.size hgk.below.size
       have hon:(w5.alloc (.cells (ndC x3 (.slice A3 k3.len c3)) 95)).ownsRow w.heap.size 95 262 (.slice A (0) cap) (0) xs:=by have:=RBk.out.own;rw [hn] at this;exact this
       have hn6:0≤1000000:=by have:=HLN.out;omega
       clear RB5 F5 hgk
       go_wp2_with (at_builtin;go_must (refine wpList_append_node (.tmp 44) (.tmp 46) w.heap.size (.slice A (0) cap) (0) xs (w5.heap.size) (ndC x3 (.slice A3 k3.len c3)) rfl rfl (by simp [Act.eval,Act.put]) hon (by simp [Act.eval,Act.put]) hbk (ndA_size _ _ _ _ _ _ _) (ndA_one_slice _ _ _ _ _ _ _ _ _) hn6 hzk ?_;intro e9 cap9 w9 hown9 hC9 hl9))
       have RB9:=Lib.hid (RBk.out.push (e:=e9) (cap:=cap9) (A:=A3) (c:=c3) (x:=x3) (k:=k3) (by rw [hn];exact hown9) (by rw [hn];exact hC9) (by rw [hn];exact hl9) (Fk.out.mono fun b _ h=>h.1))
       clear RBk Fk hbk hown9 hC9 hl9 hon
       have hlen9:(acc.app (Fr.one x3 k3)).len=0+1:=by rw [Fr.len_app,hn];rfl
       have hxl:xs.length=(0)*262:=by have:=HB.out.own.1;rw [hn] at this;exact this
       go_roundg (t3.left.length+1)
       case measure=>have:=HQ.out;have:=hk3.out;have:=hkp.out;omega
       case rel =>
        refine ⟨ov2,_,acc.app (Fr.one x3 k3),xs++(ndC x3 (.slice A3 k3.len c3)).toList,t3,(x3.kind == 4),rfl,rfl,?_,?_,?_,?_,?_⟩
        ·have:=RB9.out;rw [hn] at this;exact this
        ·have h9:=HR9.out;rw [hlen9];exact h9
        ·rw [hlen9];have:=HLN.out;have:=hk3.out;have:=hkp.out;omega
        ·intro h0;rw [hlen9] at h0;omega
        ·intro m9 hm9
         rw [hlen9] at hm9
         have:m9=0:=by omega
         subst this
         refine ⟨x3.kind,?_,rfl⟩
         rw [List.getElem?_append_right (by omega),hxl,Nat.sub_self,Array.getElem?_toList]
         exact ndA_0 _ _ _ _ _ _ _
    | succ m =>
     rw [hn] at HV
     obtain ⟨lk,hlk,hbg⟩:=HBM.out m hn
     have hown:=HB.out.own
     rw [hn] at hown
     obtain ⟨lb,hA,hcell⟩:∃ lb,A=some ⟨lb,0,none⟩∧wx.cell? ⟨lb,m*262,none⟩=some (.int .i64 lk):=by
      rcases hown with ⟨h1,⟨h2,h3⟩ | ⟨e,cp,cur,hv,hb,hh,r1,r2,r3,r4⟩⟩
      ·omega
      ·cases hv
       refine ⟨e,rfl,?_⟩
       rw [cell_of_row _ e _ cur _ (0,0) hh]
       rw [← r4,List.getElem?_take] at hlk
       split at hlk
       ·simpa using hlk
       ·cases hlk
     have hlb:InHeap lb wx:=World.block_lt_of_cell? _ _ hcell
     have hm6:m≤1000000:=by have:=HLN.out;omega
     have w64:wrap64 (m:Int)=(m:Int):=by have h9:=IntWalk.i64_in (m:Int) (by omega);first | exact h9 | (rw [← IntKind.wrap_i64];exact h9) | (unfold wrap64;omega)
     have em0:((m:Int)+1 == 0)=false:=by rw [beq_eq_false_iff_ne];omega
     have hm0:(0:Int)≤(m:Int):=by omega
     have hm1:(m:Int) < (m:Int)+1:=by omega
     have hbk:((lk:Int) == 4)=begun:=by rw [hbg,Bool.eq_iff_iff];simp;omega
     clear hown hlk hbg
     subst hA
     go_wp2_with fail
     (with_reducible refine (Tryz.strings_HasPrefix _ _ _).mono ?_)
     rw [tx_data,show Lib.hasPrefix (c::l) (ByteArray.mk #[92,41]).data.toList=false from ha]
     rintro e w1 ⟨rfl,rfl⟩
     go_wp2_with fail
     clear hcell w64 em0 hm0 hm1 hlb
     have hVr:R=((partF false begun t).bind fun y=>(more1 y.1 y.2).bind fun z=>(rowF false (y.1.1.kind == 4) z.2).map fun r=>(Fr.cons z.1.1 z.1.2 r.1,r.2)).map fun y=>(acc.app y.1,y.2):=by
      have h9:=HV.out
      rw [rowF_eq,if_neg (by rw [HST.out];decide)] at h9
      exact h9
     have hcall:=part_of HB.out.pa (HSN.out.chg HB.out.step.chg fun b hb=>H.out.own_low hb) false begun c l HL.out (fun t' ht=>HW.out t' (by have:=HLN.out;omega))
     cases hp:partF false begun t with
     | none =>
      rw [hp] at hcall hVr
      have hV2:R=none:=hVr
      refine hcall.mono ?_
      rintro e w2 ⟨rfl,hc⟩
      subst hV2
      exact ⟨rfl,rfl,chg_late HB.out.step.chg hc fun b hb hk=>(HB.out.step.new b hk).elim id fun h1=>by omega⟩
     | some y =>
      obtain ⟨⟨x,k⟩,t2⟩:=y
      rw [hp] at hcall
      have hkp:=Lib.hid (partF_kept hp).2
      refine hcall.mono ?_
      rintro e w2 ⟨v,ov2,rfl,hP,hS,A2,c2,rfl,hF⟩
      have hob:∀ b,(Value.slice (some ⟨lb,0,none⟩) acc.len cap).ownBlock=some b→b < w1.heap.size:=fun b hb=>(own_ltB HB.out.own hb).1
      have hws:=HB.out.step.chg.size
      have RB2:=Lib.hid (HB.out.part hP hS (fun _ h=>h.elim))
      have F2:Hid (FrAt (fun b=>(w.heap.size≤b∧¬ PaK g ov2 b)∧¬ (Value.slice (some ⟨lb,0,none⟩) acc.len cap).ownBlock=some b) w2 A2 c2 k):=Lib.hid (hF.mono fun b hb h=>⟨⟨by have:=h.1;omega,h.2⟩,fun e=>by have:=hob b e;have:=h.1;omega⟩)
      have hz2:w.heap.size≤w2.heap.size:=Nat.le_trans hws hS.chg.size
      clear hP hS hF hob hcall q0 ig
      obtain ⟨xb,hxb⟩:∃ n,n=w2.heap.size:=⟨_,rfl⟩
      have RB3:=Lib.hid (RB2.out.avoid (o:=.cells (ndC x (.slice A2 k.len c2)) 95) hxb)
      have hb3:blk (w2.alloc (.cells (ndC x (.slice A2 k.len c2)) 95)) xb=ndC x (.slice A2 k.len c2):=blk_alloc_at _ _ _ _ hxb
      have F3:Hid (FrAt (fun b=>((w.heap.size≤b∧¬ PaK g ov2 b)∧¬ (Value.slice (some ⟨lb,0,none⟩) acc.len cap).ownBlock=some b)∧¬ b=xb) (w2.alloc (.cells (ndC x (.slice A2 k.len c2)) 95)) A2 c2 k):=Lib.hid ((F2.out.mono fun b hb h=>⟨h,by omega⟩).grows ((Grows.refl _).alloc _))
      have hxK:Hid (¬ PaK g ov2 xb):=Lib.hid (fun hk=>by have:=RB2.out.pa.own_lt hk;omega)
      have hxW:w.heap.size≤xb:=by omega
      have hz3:(w2.alloc (.cells (ndC x (.slice A2 k.len c2)) 95)).heap.size=xb+1:=by simp [hxb]
      clear RB2 F2
      subst hxb
      go_upto_region 5 with fail
      generalize w2.alloc (.cells (ndC x (.slice A2 k.len c2)) 95)=w3 at *
      have ix3:InHeap w2.heap.size w3:=Blk.inHeap hb3 (by simp [ndA_size])
      have x0:=(Blk.cell hb3 (by simp [ndA_size]) 0).trans (ndA_0 _ _ _ _ _ _ _)
      by_cases k4:x.kind=4
      ·have e4:((x.kind:Int) == 4)=true:=by rw [k4];rfl
       have hm:more1 (x,k) t2=some ((x,k),t2):=by unfold more1;rw [if_pos (.inl k4)]
       have hkk:(x.kind == 4)=(x.kind == 4):=rfl
       have HR9:Hid (R=((rowF (decide (m+1+1=0)) (x.kind == 4) t2).map fun y=>((acc.app (Fr.one x k)).app y.1,y.2))):=Lib.hid (by
        rw [hVr,hp]
        simp only [Option.bind_some]
        rw [hm]
        simp only [Option.bind_some]
        rw [hkk,show decide (m+1+1=0)=false from by rw [decide_eq_false_iff_not];omega]
        cases rowF false (x.kind == 4) t2 with
        | none=>rfl
        | some y=>simp only [Option.map_some,Fr.app_assoc];rfl)
       have K4:=Lib.hid k4
       clear k4
       have hk3:Hid (t2.left.length≤t2.left.length):=Lib.hid (Nat.le_refl _)
       clear hm hkk hVr
       have hgk:Grows w3 (w3.alloc (.cells (ndC x (.slice A2 k.len c2)) 95)):=(Grows.refl _).alloc _
       have RBk:=Lib.hid (RB3.out.grows hgk)
       have hbk:blk (w3.alloc (.cells (ndC x (.slice A2 k.len c2)) 95)) (w2.heap.size+1)=ndC x (.slice A2 k.len c2):=blk_alloc_at _ _ _ _ hz3.symm
       have Fk:=Lib.hid (F3.out.grows hgk)
       have hzk:w.heap.size≤(w3.alloc (.cells (ndC x (.slice A2 k.len c2)) 95)).heap.size:=Nat.le_trans RB3.out.step.chg.size hgk.below.size
       have hon:(w3.alloc (.cells (ndC x (.slice A2 k.len c2)) 95)).ownsRow w.heap.size 95 262 (.slice (some ⟨lb,0,none⟩) (m+1) cap) (m+1) xs:=by have:=RBk.out.own;rw [hn] at this;exact this
       have hn6:m+1≤1000000:=by have:=HLN.out;omega
       clear RB3 F3 hgk
       go_wp2_with (at_builtin;go_must (refine wpList_append_node (.tmp 44) (.tmp 46) w.heap.size (.slice (some ⟨lb,0,none⟩) (m+1) cap) (m+1) xs (w2.heap.size+1) (ndC x (.slice A2 k.len c2)) rfl rfl (by simp [Act.eval,Act.put]) hon (by simp [Act.eval,Act.put]) hbk (ndA_size _ _ _ _ _ _ _) (ndA_one_slice _ _ _ _ _ _ _ _ _) hn6 hzk ?_;intro e9 cap9 w9 hown9 hC9 hl9))
       have RB9:=Lib.hid (RBk.out.push (e:=e9) (cap:=cap9) (A:=A2) (c:=c2) (x:=x) (k:=k) (by rw [hn];exact hown9) (by rw [hn];exact hC9) (by rw [hn];exact hl9) (Fk.out.mono fun b _ h=>h.1))
       clear RBk Fk hbk hown9 hC9 hl9 hon
       have hlen9:(acc.app (Fr.one x k)).len=m+1+1:=by rw [Fr.len_app,hn];rfl
       have hxl:xs.length=(m+1)*262:=by have:=HB.out.own.1;rw [hn] at this;exact this
       go_roundg (t2.left.length+1)
       case measure=>have:=HQ.out;have:=hk3.out;have:=hkp.out;omega
       case rel =>
        refine ⟨ov2,_,acc.app (Fr.one x k),xs++(ndC x (.slice A2 k.len c2)).toList,t2,(x.kind == 4),rfl,rfl,?_,?_,?_,?_,?_⟩
        ·have:=RB9.out;rw [hn] at this;exact this
        ·have h9:=HR9.out;rw [hlen9];exact h9
        ·rw [hlen9];have:=HLN.out;have:=hk3.out;have:=hkp.out;omega
        ·intro h0;rw [hlen9] at h0;omega
        ·intro m9 hm9
         rw [hlen9] at hm9
         have:m9=m+1:=by omega
         subst this
         refine ⟨x.kind,?_,rfl⟩
         rw [List.getElem?_append_right (by omega),hxl,Nat.sub_self,Array.getElem?_toList]
         exact ndA_0 _ _ _ _ _ _ _
      have e4:((x.kind:Int) == 4)=false:=by rw [beq_eq_false_iff_ne];omega
      by_cases k5:x.kind=5
      ·have e5:((x.kind:Int) == 5)=true:=by rw [k5];rfl
       have hm:more1 (x,k) t2=some ((x,k),t2):=by unfold more1;rw [if_pos (.inr k5)]
       have hkk:(x.kind == 4)=(x.kind == 4):=rfl
       have HR9:Hid (R=((rowF (decide (m+1+1=0)) (x.kind == 4) t2).map fun y=>((acc.app (Fr.one x k)).app y.1,y.2))):=Lib.hid (by
        rw [hVr,hp]
        simp only [Option.bind_some]
        rw [hm]
        simp only [Option.bind_some]
        rw [hkk,show decide (m+1+1=0)=false from by rw [decide_eq_false_iff_not];omega]
        cases rowF false (x.kind == 4) t2 with
        | none=>rfl
        | some y=>simp only [Option.map_some,Fr.app_assoc];rfl)
       have K4:=Lib.hid k5
       clear k5
       have hk3:Hid (t2.left.length≤t2.left.length):=Lib.hid (Nat.le_refl _)
       clear hm hkk hVr
       have hgk:Grows w3 (w3.alloc (.cells (ndC x (.slice A2 k.len c2)) 95)):=(Grows.refl _).alloc _
       have RBk:=Lib.hid (RB3.out.grows hgk)
       have hbk:blk (w3.alloc (.cells (ndC x (.slice A2 k.len c2)) 95)) (w2.heap.size+1)=ndC x (.slice A2 k.len c2):=blk_alloc_at _ _ _ _ hz3.symm
       have Fk:=Lib.hid (F3.out.grows hgk)
       have hzk:w.heap.size≤(w3.alloc (.cells (ndC x (.slice A2 k.len c2)) 95)).heap.size:=Nat.le_trans RB3.out.step.chg.size hgk.below.size
       have hon:(w3.alloc (.cells (ndC x (.slice A2 k.len c2)) 95)).ownsRow w.heap.size 95 262 (.slice (some ⟨lb,0,none⟩) (m+1) cap) (m+1) xs:=by have:=RBk.out.own;rw [hn] at this;exact this
       have hn6:m+1≤1000000:=by have:=HLN.out;omega
       clear RB3 F3 hgk
       go_wp2_with (at_builtin;go_must (refine wpList_append_node (.tmp 44) (.tmp 46) w.heap.size (.slice (some ⟨lb,0,none⟩) (m+1) cap) (m+1) xs (w2.heap.size+1) (ndC x (.slice A2 k.len c2)) rfl rfl (by simp [Act.eval,Act.put]) hon (by simp [Act.eval,Act.put]) hbk (ndA_size _ _ _ _ _ _ _) (ndA_one_slice _ _ _ _ _ _ _ _ _) hn6 hzk ?_;intro e9 cap9 w9 hown9 hC9 hl9))
       have RB9:=Lib.hid (RBk.out.push (e:=e9) (cap:=cap9) (A:=A2) (c:=c2) (x:=x) (k:=k) (by rw [hn];exact hown9) (by rw [hn];exact hC9) (by rw [hn];exact hl9) (Fk.out.mono fun b _ h=>h.1))
       clear RBk Fk hbk hown9 hC9 hl9 hon
       have hlen9:(acc.app (Fr.one x k)).len=m+1+1:=by rw [Fr.len_app,hn];rfl
       have hxl:xs.length=(m+1)*262:=by have:=HB.out.own.1;rw [hn] at this;exact this
       go_roundg (t2.left.length+1)
       case measure=>have:=HQ.out;have:=hk3.out;have:=hkp.out;omega
       case rel =>
        refine ⟨ov2,_,acc.app (Fr.one x k),xs++(ndC x (.slice A2 k.len c2)).toList,t2,(x.kind == 4),rfl,rfl,?_,?_,?_,?_,?_⟩
        ·have:=RB9.out;rw [hn] at this;exact this
        ·have h9:=HR9.out;rw [hlen9];exact h9
        ·rw [hlen9];have:=HLN.out;have:=hk3.out;have:=hkp.out;omega
        ·intro h0;rw [hlen9] at h0;omega
        ·intro m9 hm9
         rw [hlen9] at hm9
         have:m9=m+1:=by omega
         subst this
         refine ⟨x.kind,?_,rfl⟩
         rw [List.getElem?_append_right (by omega),hxl,Nat.sub_self,Array.getElem?_toList]
         exact ndA_0 _ _ _ _ _ _ _
      have e5:((x.kind:Int) == 5)=false:=by rw [beq_eq_false_iff_ne];omega
      have hm:more1 (x,k) t2=timesF (x,k) t2:=by unfold more1;rw [if_neg (by simp only [];omega)]
      have K45:=Lib.hid (And.intro k4 k5)
      clear k4 k5
      go_wp2_with fail
      have htm:=times_any RB3.out.pa (ok:=fun b=>((w.heap.size≤b∧¬ PaK g ov2 b)∧¬ (Value.slice (some ⟨lb,0,none⟩) acc.len cap).ownBlock=some b)∧¬ b=w2.heap.size) (fun b hb e=>hb.1.1.2 (.inl e)) (x,k) A2 c2 F3.out
      clear x0
      cases htf:timesF (x,k) t2 with
      | none =>
       rw [htf] at htm
       have hV2:R=none:=by rw [hVr,hp];simp only [Option.bind_some];rw [hm,htf];rfl
       refine htm.mono ?_
       rintro e w4 ⟨rfl,hc⟩
       subst hV2
       exact ⟨rfl,rfl,chg_late RB3.out.step.chg hc fun b hb e=>.inl (e ▸ rfl)⟩
      | some z =>
       obtain ⟨⟨x3,k3⟩,t3⟩:=z
       rw [htf] at htm
       have hmm:more1 (x,k) t2=some ((x3,k3),t3):=hm.trans htf
       have hkk:(x.kind == 4)=(x3.kind == 4):=(more1_kind hmm).symm
       have HR9:Hid (R=((rowF (decide (m+1+1=0)) (x3.kind == 4) t3).map fun y=>((acc.app (Fr.one x3 k3)).app y.1,y.2))):=Lib.hid (by
        rw [hVr,hp]
        simp only [Option.bind_some]
        rw [hmm]
        simp only [Option.bind_some]
        rw [hkk,show decide (m+1+1=0)=false from by rw [decide_eq_false_iff_not];omega]
        cases rowF false (x3.kind == 4) t3 with
        | none=>rfl
        | some y=>simp only [Option.map_some,Fr.app_assoc];rfl)
       have hk3:Hid (t3.left.length≤t2.left.length):=Lib.hid (timesV_kept htf).le
       refine htm.mono ?_
       rintro e w4 ⟨v,rfl,hP,hC,A3,c3,rfl,hF⟩
       have RB4:=Lib.hid (RB3.out.part hP (StepP.of_chg (hC.mono fun b _ e=>(.inl e:PaK g ov2 b))) (fun b hb=>hb ▸ ix3))
       have hxg:¬ w2.heap.size=g:=fun e=>hxK.out (.inl e)
       have hb4:=(chg_blk hC ix3 hxg).trans hb3
       have F4:Hid (FrAt (fun b=>((w.heap.size≤b∧¬ PaK g ov2 b)∧¬ (Value.slice (some ⟨lb,0,none⟩) acc.len cap).ownBlock=some b)∧¬ b=w2.heap.size) w4 A3 c3 k3):=Lib.hid (hF.mono fun b hb h=>by
        rcases h with h | h
        ·exact h
        ·exact ⟨⟨⟨by omega,fun hk=>by have:=RB3.out.pa.own_lt hk;omega⟩,fun e=>by have:=(own_ltB RB3.out.own e).1;omega⟩,by omega⟩)
       have i4:InHeap w2.heap.size w4:=Blk.inHeap hb4 (by simp [ndA_size])
       clear hP hC hF htm htf hm hmm hkk hVr RB3 F3 hb3 ix3
       go_upto_region 9 with fail
       have RB5:=Lib.hid (RB4.out.setx (chg_row (c:=ndC x3 (.slice A3 k3.len c3))) hxK.out hxW)
       have hb5:blk (setBlk w4 w2.heap.size (ndC x3 (.slice A3 k3.len c3))) w2.heap.size=ndC x3 (.slice A3 k3.len c3):=Blk.get _ hb4 (by simp [ndA_size])
       have F5:=Lib.hid (F4.out.chg (chg_row (w:=w4) (g:=w2.heap.size) (c:=ndC x3 (.slice A3 k3.len c3))) fun b _ h=>h.2)
       clear RB4 F4 hb4
       generalize setBlk w4 w2.heap.size (ndC x3 (.slice A3 k3.len c3))=w5 at *
       have i5:InHeap w2.heap.size w5:=Blk.inHeap hb5 (by simp [ndA_size])
       have hgk:Grows w5 (w5.alloc (.cells (ndC x3 (.slice A3 k3.len c3)) 95)):=(Grows.refl _).alloc _
       have RBk:=Lib.hid (RB5.out.grows hgk)
       have hbk:blk (w5.alloc (.cells (ndC x3 (.slice A3 k3.len c3)) 95)) (w5.heap.size)=ndC x3 (.slice A3 k3.len c3):=blk_alloc_at _ _ _ _ rfl
       have Fk:=Lib.hid (F5.out.grows hgk)
       have hzk:w.heap.size≤(w5.alloc (.cells (ndC x3 (.slice A3 k3.len c3)) 95)).heap.size:=Nat.le_trans RB5.out.step.chg.size hgk.below.size
       have hon:(w5.alloc (.cells (ndC x3 (.slice A3 k3.len c3)) 95)).ownsRow w.heap.size 95 262 (.slice (some ⟨lb,0,none⟩) (m+1) cap) (m+1) xs:=by have:=RBk.out.own;rw [hn] at this;exact this
       have hn6:m+1≤1000000:=by have:=HLN.out;omega
       clear RB5 F5 hgk
       go_wp2_with (at_builtin;go_must (refine wpList_append_node (.tmp 44) (.tmp 46) w.heap.size (.slice (some ⟨lb,0,none⟩) (m+1) cap) (m+1) xs (w5.heap.size) (ndC x3 (.slice A3 k3.len c3)) rfl rfl (by simp [Act.eval,Act.put]) hon (by simp [Act.eval,Act.put]) hbk (ndA_size _ _ _ _ _ _ _) (ndA_one_slice _ _ _ _ _ _ _ _ _) hn6 hzk ?_;intro e9 cap9 w9 hown9 hC9 hl9))
       have RB9:=Lib.hid (RBk.out.push (e:=e9) (cap:=cap9) (A:=A3) (c:=c3) (x:=x3) (k:=k3) (by rw [hn];exact hown9) (by rw [hn];exact hC9) (by rw [hn];exact hl9) (Fk.out.mono fun b _ h=>h.1))
       clear RBk Fk hbk hown9 hC9 hl9 hon
       have hlen9:(acc.app (Fr.one x3 k3)).len=m+1+1:=by rw [Fr.len_app,hn];rfl
       have hxl:xs.length=(m+1)*262:=by have:=HB.out.own.1;rw [hn] at this;exact this
       go_roundg (t3.left.length+1)
       case measure=>have:=HQ.out;have:=hk3.out;have:=hkp.out;omega
       case rel =>
        refine ⟨ov2,_,acc.app (Fr.one x3 k3),xs++(ndC x3 (.slice A3 k3.len c3)).toList,t3,(x3.kind == 4),rfl,rfl,?_,?_,?_,?_,?_⟩
        ·have:=RB9.out;rw [hn] at this;exact this
        ·have h9:=HR9.out;rw [hlen9];exact h9
        ·rw [hlen9];have:=HLN.out;have:=hk3.out;have:=hkp.out;omega
        ·intro h0;rw [hlen9] at h0;omega
        ·intro m9 hm9
         rw [hlen9] at hm9
         have:m9=m+1:=by omega
         subst this
         refine ⟨x3.kind,?_,rfl⟩
         rw [List.getElem?_append_right (by omega),hxl,Nat.sub_self,Array.getElem?_toList]
         exact ndA_0 _ _ _ _ _ _ _
theorem row_any (tv:Value) (n:Nat):∀ s:PS,s.left.length < n→RowSpec tv s:=by
 induction n with
 | zero=>intro s h;omega
 | succ n ih=>exact fun s hs base g ov w h hsn=>row_of h hsn fun t ht=>ih t (by omega)
end
end Go.Proofs.YtnjagecmhdagkaaGreatDoor
