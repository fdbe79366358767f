/-
 Several texts of the proof: MatDb, MatDu, MatDc.
-/
import Derived.Test.YtnjagecmhdagkaaGreatDoorPk40
import Derived.Deep.CutBlock
import Derived.Test.YtnjagecmhdagkaaGreatDoorPk02
import Derived.BigQuiet
import Derived.Test.YtnjagecmhdagkaaGreatDoorPk00
import Derived.Laws.AppendOwnNone
import Derived.Deep.RegionLaw
set_option linter.unusedSimpArgs false
set_option linter.unusedVariables false
set_option maxRecDepth 3000
/-
  Matches, the document's way by all ways: a node without kids, walked.
-/
namespace Go.Proofs.YtnjagecmhdagkaaGreatDoor
open Go.RowKit
def oneL (x:NdV) (s:List UInt8) (a:Nat) (g:Spn):List St:=match oneV x s a g with
 | none=>[]
 | some m=>[(a+m,g,.cons m .nil .nil)]
def bldSt (x:Array (Nat × Value)):Sem Value:=Instr.build 87 x
theorem bldSt_eq (x:Array (Nat × Value)):Instr.build 87 x=bldSt x:=rfl
theorem bldSt_two (g:Spn) (hg:g.length=20) (a:Int) (w:World):(bldSt #[(0,.int .i64 a),(1,spV g)]).run Tryz.prog w=.ok (.agg (stC a g (.slice none 0 0))) w:=bldSt_raw g hg a w
theorem bldSt_three (g:Spn) (hg:g.length=20) (a:Int) (A:Option Addr) (n c:Nat) (w:World):(bldSt #[(0,.int .i64 a),(1,spV g),(2,.slice A n c)]).run Tryz.prog w=.ok (.agg (stC a g (.slice A n c))) w:=bldSt_raw3 g hg a A n c w
def bldSlSt (x:Array (Nat × Value)):Sem Value:=Instr.buildSlice 83 1 x
theorem bldSlSt_eq (x:Array (Nat × Value)):Instr.buildSlice 83 1 x=bldSlSt x:=rfl
theorem bldSlSt_run (g:Spn) (hg:g.length=20) (a:Int) (A:Option Addr) (n c:Nat) (w:World):(bldSlSt #[(0,.agg (stC a g (.slice A n c)))]).run Tryz.prog w=.ok (.slice (some ⟨w.heap.size,0,none⟩) 1 1) (w.alloc (.cells (stC a g (.slice A n c)) 87)):=bldSlSt_raw g hg a A n c w
def bldSlWyR (x:Array (Nat × Value)):Sem Value:=Instr.buildSlice 85 1 x
theorem bldSlWyR_eq (x:Array (Nat × Value)):Instr.buildSlice 85 1 x=bldSlWyR x:=rfl
theorem bldSlWyR_run (w:World) (l:Int) (a:Option Addr) (n c:Nat):(bldSlWyR #[(0,.agg #[.int .i64 l,.slice a n c])]).run Tryz.prog w=.ok (.slice (some ⟨w.heap.size,0,none⟩) 1 1) (w.alloc (.cells #[.int .i64 l,.slice a n c] 130)):=by kernel_rfl
theorem daC_spent (s:List UInt8) (n:Nat) (most m:Int):(daC s n most).setIfInBounds 1 (.int .i64 m)=#[.string (tx s),.int .i64 m,.int .i64 most]:=rfl
theorem wy_blk {ok:Nat→Prop} {w:World} {b l:Nat} {A:Option Addr} {c:Nat} {k:Wy} (hb:blk w b=#[.int .i64 l,.slice A k.len c]) (hk:WyAt ok w A c k) (hl:l≤100000) (ho:ok b):WyAt ok w (some ⟨b,0,none⟩) 1 (.cons l k .nil):=by
 obtain ⟨ys,h1,h2⟩:=hk
 refine ⟨[.int .i64 l,.slice A k.len c],⟨rd_blk (n:=1) (size:=2) hb rfl (by simp),(fun e=>by cases e),by simp [Wy.len],by omega,fun _ a e=>by cases e;exact ho⟩,A,c,ys,[],rfl,h1,h2,rfl,hl⟩
theorem st_blk {ok:Nat→Prop} {w:World} {b:Nat} {t:St} {A:Option Addr} {c:Nat} (hb:blk w b=stC t.1 t.2.1 (.slice A t.2.2.len c)) (hg:t.2.1.length=20) (hw:WyAt (fun x=>ok x∧x≠b) w A c t.2.2) (ho:ok b):SsAt ok w (.slice (some ⟨b,0,none⟩) 1 1) [t] :=
 ⟨some ⟨b,0,none⟩,1,(stC t.1 t.2.1 (.slice A t.2.2.len c)).toList,rfl,⟨rd_blk (n:=1) (size:=22) hb (by rw [stC_size hg]) (by rw [stC_size hg];decide),(fun e=>by cases e),Nat.le_refl _,by omega,fun _ a e=>by cases e;exact ho⟩,StRow.one hg (hw.mono fun x _ hx=>⟨hx.1,fun a e=>by cases e;exact hx.2⟩)⟩
attribute [local go_sem ↓] zeroNodeR ldNodeR_eq stNodeR_eq ldSp_eq stSp_eq zeroSp bldSt_eq bldSlSt_eq bldSlWyR_eq
attribute [local go_sem] loadNodeR loadNodeR_if storeNodeR storeNodeR_if ndA_one_slice loadSp loadSp_if storeSp storeSp_if spC_one tx_bt bldSt_two bldSt_three bldSlSt_run bldSlWyR_run
set_option maxRecDepth 100000 in
set_option maxHeartbeats 4000000 in
theorem one_anyD (x:NdV) (K:Option Addr) (kl kc:Nat) (s:List UInt8) (a:Nat) (g:Spn) (sb n:Nat) (most:Int) (w:World) (hsb:blk w sb=daC s n most) (hg:SpIn s.length g) (ha:a≤s.length) (hn:x.kind=6→x.n < 10) (hs:s.length≤60000) (hn9:n≤1000000000) :
  Calls Tryz.prog 83 #[.pointer (some ⟨sb,0,none⟩),.agg (ndC x (.slice K kl kc)),.int .i64 a,spV g] w fun e w'=>∃ v,e=.returned v∧SsAt (fun b=>w.heap.size≤b) w' v (oneL x s a g)∧blk w' sb=daC s (n+1) most∧Chg (fun b=>b=sb) w w':=by
 have hgl:=hg.len
 have hsz:(spC g).size=20:=by rw [spC_size];exact hgl
 have isb:sb < w.heap.size:=Blk.inHeap hsb (by simp [daC])
 obtain ⟨R,hR⟩:∃ R,oneI x s a g=R:=⟨_,rfl⟩
 have HR:=Lib.hid hR
 have HG:=Lib.hid hg
 have HN:=Lib.hid hn
 clear hR hg hn
 go_enter Tryz.func83,Tryz.ntmps83
 go_upto_region 1 with fail
 have HT:=Lib.hid (TwoAt.start w (ndC x (.slice K kl kc)) (spC g) 91 35)
 generalize (w.alloc (Obj.cells (ndC x (Value.slice K kl kc)) 91)).alloc (Obj.cells (spC g) 35)=w2 at *
 have hsb2:blk w2 sb=daC s n most:=blkG hsb (by simp [daC]) HT.out.grows
 have m1:w2.cell? ⟨sb,1,none⟩=some (.int .i64 n):=Blk.cell hsb2 (by simp [daC]) 1
 have ib:InHeap sb w2:=Blk.inHeap hsb2 (by simp [daC])
 have fb:w2.frozen? ⟨sb,1,none⟩=false:=Blk.free hsb2 (by simp [daC]) 1
 go_upto_region 2 with fail
 have hT3:blk (w2.setCell ⟨sb,1,none⟩ (.int .i64 ((n:Int)+1))) sb=daC s (n+1) most:=(pa_put hsb2 (by simp [daC]) 1 _).trans (daC_spent s n most _)
 have hC3:Chg (fun b=>b=sb) w2 (w2.setCell ⟨sb,1,none⟩ (.int .i64 ((n:Int)+1))):=chg_cell _ _ _ _
 generalize w2.setCell ⟨sb,1,none⟩ (.int .i64 ((n:Int)+1))=w3 at *
 have hz2:=HT.out.size
 have hbx:blk w3 w.heap.size=ndC x (.slice K kl kc):=(chg_blk hC3 (by omega) (by omega)).trans HT.out.fst
 have hbg:blk w3 (w.heap.size+1)=spC g:=(chg_blk hC3 (by omega) (by omega)).trans HT.out.snd
 have hsb3:blk w3 sb=#[.string (tx s),.int .i64 ((n:Int)+1),.int .i64 most]:=hT3
 have pz:0 < (ndC x (.slice K kl kc)).size:=by simp [ndA_size]
 have c0:=(Blk.cell hbx pz 0).trans (ndA_0 _ _ _ _ _ _ _)
 have c1:=(Blk.cell hbx pz 1).trans (ndA_1 _ _ _ _ _ _ _)
 have c258:=(Blk.cell hbx pz 258).trans (ndA_258 _ _ _ _ _ _ _)
 have cs:∀ c,c < 256→w3.cell? ⟨w.heap.size,2+c,none⟩=some (.bool (x.set c)):=fun c hc=>(Blk.cell hbx pz (2+c)).trans (ndA_set _ _ _ _ _ _ _ c hc)
 have cg:∀ k,k < 20→w3.cell? ⟨w.heap.size+1,k,none⟩=some (.int .i64 (g.getD k 0)):=fun k hk=>(Blk.cell hbg (by omega) k).trans (spC_get (by omega))
 have m0:w3.cell? ⟨sb,0,none⟩=some (.string (tx s)):=Blk.cell hsb3 (by simp) 0
 have ib3:InHeap sb w3:=Blk.inHeap hsb3 (by simp)
 have CS:=Lib.hid cs
 have CG:=Lib.hid cg
 have HBG:=Lib.hid hbg
 have HSB:=Lib.hid hT3
 have HC3:=Lib.hid ((Chg.of_grows (p:=fun b=>b=sb) HT.out.grows).trans hC3)
 have hz3:w.heap.size≤w3.heap.size:=by have:=hC3.size;omega
 clear cs cg pz hbx hbg hsb3 hT3 hC3 hsb2 m1 ib fb HT hz2 hsb
 go_upto_block 0 with fail
 go_cut [9] (fun v9 wx=>v9=.int .i64 R∧Grows w3 wx)
 case first =>
  by_cases h4:x.kind=4
  ·have b4:((x.kind:Int) == 4)=true:=by simp;omega
   by_cases h0:a=0
   ·have e0:((a:Int) == 0)=true:=by simp;omega
    have hR:R=0:=by rw [← HR.out];exact oneI_some (by unfold oneV;rw [if_pos h4,if_pos h0])
    subst hR
    clear HR h4 h0
    go_wp2_with fail
    go_meet
    exact ⟨rfl,Grows.refl _⟩
   ·have e0:((a:Int) == 0)=false:=by simp;omega
    have hR:R=-1:=by rw [← HR.out];exact oneI_none (by unfold oneV;rw [if_pos h4,if_neg h0])
    subst hR
    clear HR h4 h0
    go_wp2_with fail
    go_meet
    exact ⟨rfl,Grows.refl _⟩
  have b4:((x.kind:Int) == 4)=false:=by simp;omega
  by_cases h5:x.kind=5
  ·have b5:((x.kind:Int) == 5)=true:=by simp;omega
   by_cases h0:a=s.length
   ·have e0:((a:Int) == (s.length:Int))=true:=by simp;omega
    have hR:R=0:=by rw [← HR.out];exact oneI_some (by unfold oneV;rw [if_neg h4,if_pos h5,if_pos h0])
    subst hR
    clear HR h4 h5 h0
    go_wp2_with fail
    go_meet
    exact ⟨rfl,Grows.refl _⟩
   ·have e0:((a:Int) == (s.length:Int))=false:=by simp;omega
    have hR:R=-1:=by rw [← HR.out];exact oneI_none (by unfold oneV;rw [if_neg h4,if_pos h5,if_neg h0])
    subst hR
    clear HR h4 h5 h0
    go_wp2_with fail
    go_meet
    exact ⟨rfl,Grows.refl _⟩
  have b5:((x.kind:Int) == 5)=false:=by simp;omega
  by_cases h6:x.kind=6
  ·have b6:((x.kind:Int) == 6)=true:=by simp;omega
   have hnx:=HN.out h6
   have hlo:=HG.out.lo x.n hnx
   have g0:w3.cell? ⟨w.heap.size+1,x.n*2,none⟩=some (.int .i64 (spA g x.n)):=by rw [CG.out _ (by omega),Nat.mul_comm];rfl
   have g1:w3.cell? ⟨w.heap.size+1,x.n*2+1,none⟩=some (.int .i64 (spB g x.n)):=by rw [CG.out _ (by omega),Nat.mul_comm];rfl
   obtain ⟨F,hF⟩:∃ F,spA g x.n=F:=⟨_,rfl⟩
   obtain ⟨T,hT⟩:∃ T,spB g x.n=T:=⟨_,rfl⟩
   rw [hF,hT] at hlo
   rw [hF] at g0
   rw [hT] at g1
   have hV:oneV x s a g=if 0≤F∧T - F≤(s.length:Int) - a∧(s.drop F.toNat).take (T - F).toNat=(s.drop a).take (T - F).toNat then some (T - F).toNat else none:=by
    unfold oneV
    rw [if_neg h4,if_neg h5,if_pos h6,hF,hT]
   have HV:=Lib.hid hV
   have HH:=Lib.hid hlo
   have hgx:x.n*2+1 < 20:=by omega
   have hT6:T≤60000:=by omega
   have hFm:-1≤F:=hlo.1
   have hFT:F≤T:=hlo.2.1
   have hTs:T≤(s.length:Int):=hlo.2.2
   clear hV hlo hF hT h4 h5
   go_upto_region 13 with fail
   clear b4 b5 b6 h6
   by_cases hF0:0≤F
   ·obtain ⟨f,rfl⟩:∃ f:Nat,F=f:=⟨F.toNat,by omega⟩
    obtain ⟨t,rfl⟩:∃ f:Nat,T=f:=⟨T.toNat,by omega⟩
    by_cases hfit:(t:Int) - f≤(s.length:Int) - a
    ·obtain ⟨d,hd⟩:∃ d,t=f+d:=⟨t - f,by omega⟩
     have eT:(t:Int) - f=d:=by omega
     have eTn:((t:Int) - f).toNat=d:=by omega
     have hV2:oneV x s a g=if (s.drop f).take d=(s.drop a).take d then some d else none:=by
      rw [HV.out,eTn]
      simp only [Int.toNat_natCast,hF0,hfit,true_and]
     have eA:(a:Int)+t - f=((a+d:Nat):Int):=by omega
     have htl:t≤s.length:=by omega
     have hft:f≤t:=by omega
     have had:a+d≤s.length:=by omega
     have hdi:(d:Int)≤(s.length:Int) - a:=by omega
     have HV2:=Lib.hid hV2
     clear hV2 HV eTn hd hTs hFm hFT HH hT6 hfit
     have e1:(tx s).extract f t=tx ((s.drop f).take d):=by rw [tx_mid,show t - f=d by omega]
     have e2:(tx s).extract a (a+d)=tx ((s.drop a).take d):=by rw [tx_mid,Nat.add_sub_cancel_left]
     have E1:=Lib.hid e1
     have E2:=Lib.hid e2
     clear e1 e2
     by_cases hsame:(s.drop f).take d=(s.drop a).take d
     ·have hcmp:(((tx s).extract a (a+d)).toList == ((tx s).extract f t).toList)=true:=str_eq (by rw [E1.out,E2.out,hsame])
      have hR:R=d:=by rw [← HR.out];exact oneI_some (by rw [HV2.out,if_pos hsame])
      subst hR
      clear hsame HR
      go_quiet (fail)
      go_wp2_with fail
      go_quiet (fail)
      go_wp2_with fail
      go_meet
      exact ⟨rfl,by repeat' first | exact Grows.refl _ | refine Grows.drewN ?_ _ | refine Grows.drew ?_⟩
     ·have hcmp:(((tx s).extract a (a+d)).toList == ((tx s).extract f t).toList)=false:=str_ne (by rw [E1.out,E2.out];exact fun e=>hsame (tx_inj e).symm)
      have hR:R=-1:=by rw [← HR.out];exact oneI_none (by rw [HV2.out,if_neg hsame])
      subst hR
      clear hsame HR
      go_quiet (fail)
      go_wp2_with fail
      go_quiet (fail)
      go_wp2_with fail
      go_meet
      exact ⟨rfl,by repeat' first | exact Grows.refl _ | refine Grows.drewN ?_ _ | refine Grows.drew ?_⟩
    ·have hR:R=-1:=by rw [← HR.out];exact oneI_none (by rw [HV.out,if_neg fun h=>hfit h.2.1])
     have hfb:decide ((t:Int) - f≤(s.length:Int) - a)=false:=decide_eq_false hfit
     subst hR
     go_quiet (fail)
     go_wp2_with fail
     go_quiet (fail)
     go_wp2_with fail
     go_meet
     exact ⟨rfl,by repeat' first | exact Grows.refl _ | refine Grows.drewN ?_ _ | refine Grows.drew ?_⟩
   ·have hR:R=-1:=by rw [← HR.out];exact oneI_none (by rw [HV.out,if_neg fun h=>hF0 h.1])
    have hfb:decide (0≤F)=false:=decide_eq_false hF0
    subst hR
    go_quiet (fail)
    go_wp2_with fail
    go_quiet (fail)
    go_wp2_with fail
    go_meet
    exact ⟨rfl,by repeat' first | exact Grows.refl _ | refine Grows.drewN ?_ _ | refine Grows.drew ?_⟩
  have b6:((x.kind:Int) == 6)=false:=by simp;omega
  have hV:oneV x s a g=if a < s.length∧(x.kind=2∨(x.kind=3∧x.set (ch s a)=true)∨(x.kind=1∧x.byte=ch s a)) then some 1 else none:=by
   unfold oneV
   rw [if_neg h4,if_neg h5,if_neg h6]
  have HV:=Lib.hid hV
  clear hV h4 h5 h6
  by_cases hlt:a < s.length
  ·have hbl:=bt_lt s a
   have hcs:=CS.out (bt s a) hbl
   have hch:ch s a=bt s a:=rfl
   have HV2:Hid (oneV x s a g=if x.kind=2∨(x.kind=3∧x.set (bt s a)=true)∨(x.kind=1∧x.byte=bt s a) then some 1 else none):=Lib.hid (by
    rw [HV.out,hch]
    simp only [hlt,true_and])
   clear HV hch
   obtain ⟨C,hC⟩:∃ C,bt s a=C:=⟨_,rfl⟩
   rw [hC] at hcs HV2 hbl
   by_cases h2:x.kind=2
   ·have b2:((x.kind:Int) == 2)=true:=by simp;omega
    have hR:R=1:=by rw [← HR.out];exact oneI_some (by rw [HV2.out,if_pos (.inl h2)])
    subst hR
    clear HR HV2 h2
    go_upto_region 4 with fail
    go_quiet (fail)
    go_wp2_with fail
    go_meet
    exact ⟨rfl,by repeat' first | exact Grows.refl _ | refine Grows.drewN ?_ _ | refine Grows.drew ?_⟩
   have b2:((x.kind:Int) == 2)=false:=by simp;omega
   by_cases h3:x.kind=3
   ·have b3:((x.kind:Int) == 3)=true:=by simp;omega
    have b1:((x.kind:Int) == 1)=false:=by simp;omega
    cases hp:x.set C with
    | true =>
     rw [hp] at hcs
     have hR:R=1:=by rw [← HR.out];exact oneI_some (by rw [HV2.out,if_pos (.inr (.inl ⟨h3,hp⟩))])
     subst hR
     clear HR HV2 h2 h3 hp
     go_upto_region 4 with fail
     go_quiet (fail)
     go_wp2_with fail
     go_meet
     exact ⟨rfl,by repeat' first | exact Grows.refl _ | refine Grows.drewN ?_ _ | refine Grows.drew ?_⟩
    | false =>
     rw [hp] at hcs
     have hR:R=-1:=by rw [← HR.out];exact oneI_none (by rw [HV2.out,if_neg];rintro (h | ⟨-,h⟩ | ⟨h,-⟩);exact h2 h;rw [hp] at h;cases h;omega)
     subst hR
     clear HR HV2 h2 h3 hp
     go_upto_region 4 with fail
     go_quiet (fail)
     go_wp2_with fail
     go_meet
     exact ⟨rfl,by repeat' first | exact Grows.refl _ | refine Grows.drewN ?_ _ | refine Grows.drew ?_⟩
   have b3:((x.kind:Int) == 3)=false:=by simp;omega
   by_cases h1:x.kind=1
   ·have b1:((x.kind:Int) == 1)=true:=by simp;omega
    by_cases hb:x.byte=C
    ·have bb:((C:Int) == (x.byte:Int))=true:=by simp;omega
     have hR:R=1:=by rw [← HR.out];exact oneI_some (by rw [HV2.out,if_pos (.inr (.inr ⟨h1,hb⟩))])
     subst hR
     clear HR HV2 h1 h2 h3 hb
     go_upto_region 4 with fail
     go_quiet (fail)
     go_wp2_with fail
     go_meet
     exact ⟨rfl,by repeat' first | exact Grows.refl _ | refine Grows.drewN ?_ _ | refine Grows.drew ?_⟩
    ·have bb:((C:Int) == (x.byte:Int))=false:=by simp;omega
     have hR:R=-1:=by rw [← HR.out];exact oneI_none (by rw [HV2.out,if_neg];rintro (h | ⟨h,-⟩ | ⟨-,h⟩);exact h2 h;exact h3 h;exact hb h)
     subst hR
     clear HR HV2 h1 h2 h3 hb
     go_upto_region 4 with fail
     go_quiet (fail)
     go_wp2_with fail
     go_meet
     exact ⟨rfl,by repeat' first | exact Grows.refl _ | refine Grows.drewN ?_ _ | refine Grows.drew ?_⟩
   have b1:((x.kind:Int) == 1)=false:=by simp;omega
   have hR:R=-1:=by rw [← HR.out];exact oneI_none (by rw [HV2.out,if_neg];rintro (h | ⟨h,-⟩ | ⟨h,-⟩);exact h2 h;exact h3 h;exact h1 h)
   subst hR
   clear HR HV2 h1 h2 h3
   go_upto_region 4 with fail
   go_quiet (fail)
   go_wp2_with fail
   go_meet
   exact ⟨rfl,by repeat' first | exact Grows.refl _ | refine Grows.drewN ?_ _ | refine Grows.drew ?_⟩
  ·have hlb:decide (a < s.length)=false:=decide_eq_false hlt
   have hR:R=-1:=by rw [← HR.out];exact oneI_none (by rw [HV.out,if_neg fun h=>hlt h.1])
   subst hR
   clear HR HV hlt
   go_upto_region 4 with fail
   go_quiet (fail)
   go_wp2_with fail
   go_meet
   exact ⟨rfl,by repeat' first | exact Grows.refl _ | refine Grows.drewN ?_ _ | refine Grows.drew ?_⟩
 case rest =>
  obtain ⟨rfl,hgx⟩:=hcut
  have hsbx:blk wc sb=daC s (n+1) most:=blkG HSB.out (by simp [daC]) hgx
  have hbgx:blk wc (w.heap.size+1)=spC g:=blkG HBG.out (by omega) hgx
  have hld:=loadSp_all wc (w.heap.size+1) (spC g) hbgx hsz
  have HCX:=Lib.hid (HC3.out.trans (Chg.of_grows hgx))
  have HSX:=Lib.hid hsbx
  have hzx:w.heap.size≤wc.heap.size:=by have:=hgx.below.size;omega
  clear hgx hbgx hsbx HSB HBG CS CG c0 c1 c258 m0 ib3
  cases hv:oneV x s a g with
  | none =>
   have hR:R=-1:=by rw [← HR.out];exact oneI_none hv
   have eL:oneL x s a g=[]:=by unfold oneL;rw [hv]
   have EL:=Lib.hid eL
   subst hR
   clear HR hv eL
   go_wp2_with fail
   go_ret
   exact ⟨_,rfl,by rw [EL.out];exact SsAt.nil _ _,HSX.out,HCX.out⟩
  | some m =>
   have hR:R=m:=by rw [← HR.out];exact oneI_some hv
   have hm:a+m≤s.length:=oneV_le hv ha
   have eL:oneL x s a g=[(a+m,g,.cons m .nil .nil)]:=by unfold oneL;rw [hv]
   have EL:=Lib.hid eL
   subst hR
   clear HR hv eL
   go_wp2_with fail
   go_ret
   have hT:=TwoAt.start wc #[.int .i64 m,.slice none 0 0] (stC ((a:Int)+m) g (.slice (some ⟨wc.heap.size,0,none⟩) 1 1)) 130 87
   have e:(a:Int)+m=((a+m:Nat):Int):=by omega
   have hT2:=hT.snd
   rw [e] at hT2
   exact ⟨_,rfl,by
    rw [EL.out]
    exact st_blk (t:=(a+m,g,.cons m .nil .nil)) hT2 hgl (wy_blk hT.fst (WyAt.zero _ _) (by omega) ⟨hzx,by omega⟩) (by omega),blkG HSX.out (by simp [daC]) hT.grows,HCX.out.trans (Chg.of_grows hT.grows)⟩
end Go.Proofs.YtnjagecmhdagkaaGreatDoor
namespace Go.Proofs.YtnjagecmhdagkaaGreatDoor
open Go.RowKit
attribute [local go_sem ↓] zeroNodeR ldNodeR_eq stNodeR_eq ldSp_eq stSp_eq zeroSp
attribute [local go_sem] loadNodeR loadNodeR_if storeNodeR storeNodeR_if ndA_one_slice loadSp loadSp_if storeSp storeSp_if spC_one
set_option maxRecDepth 100000 in
set_option maxHeartbeats 4000000 in
theorem unset_anyD:∀ (N:Nat) (f:Fr) (ok:Nat→Prop) (A:Option Addr) (cap:Nat) (g:Spn) (w:World),f.size≤N→f.size≤1000→AllNd f→FrAt ok w A cap f→g.length=20 →
  Calls Tryz.prog 81 #[.slice A f.len cap,spV g] w fun e w'=>e=.returned (spV (unsetV f g))∧Grows w w':=by
 intro N
 induction N with
 | zero =>
  intro f ok A cap g w hN _ _ hA hgl
  obtain rfl:f=.nil:=Fr.nil_of_len (by have:=f.len_size;omega)
  have hsz:(spC g).size=20:=by rw [spC_size];exact hgl
  have hz0:(spC spZero).size=20:=by rw [spC_size];rfl
  have hov:over (spC spZero) 0 (spC g)=spC g:=over_all (by omega)
  have hsp:span (spC g) 0 20=spC g:=span_all hsz
  clear hA hN
  go_enter Tryz.func81,Tryz.ntmps81
  go_upto_region 1 with fail
  have HT:=Lib.hid (TwoAt.start w (spC g) (spC spZero) 35 35)
  generalize (w.alloc (Obj.cells (spC g) 35)).alloc (Obj.cells (spC spZero) 35)=w2 at *
  have hld:=loadSp_all w2 w.heap.size (spC g) HT.out.fst hsz
  have hst:=storeSp_all w2 (w.heap.size+1) (spC g) HT.out.snd hz0 hsz (spC_one _)
  go_wp2_with fail
  go_loopg [5,6] 0 (fun q v5 _ wr=>v5=.int .i64 0∧wr=w2)
  case atStart=>exact ⟨rfl,rfl⟩
  case round =>
   obtain ⟨rfl,rfl⟩:=hrel
   go_wp2_with fail
   exact bodyPost_ret (results_sp 4 rfl rfl (Blk.get _ HT.out.snd (by omega)) hsz) rfl ⟨rfl,Chg.grows (n:=0) HT.out.grows (chg_setBlkM (K:=fun b=>b=w.heap.size+1) rfl) fun b e=>by omega⟩
 | succ N ih =>
  intro f ok A cap g w hN hS hnd hA hgl
  have hl:=f.len_size
  have hl2:f.len≤1000:=by omega
  have hsz:(spC g).size=20:=by rw [spC_size];exact hgl
  have hz0:(spC spZero).size=20:=by rw [spC_size];rfl
  have hA:FrAt (fun b=>b < w.heap.size) w A cap f:=hA.mono fun b hb _=>hb
  have HA:=Lib.hid hA
  have HN:=Lib.hid hN
  have HS:=Lib.hid hS
  have HND:=Lib.hid hnd
  clear hA hN hS hl hnd
  go_enter Tryz.func81,Tryz.ntmps81
  go_upto_region 1 with fail
  have HT:=Lib.hid (TwoAt.start w (spC g) (spC spZero) 35 35)
  generalize (w.alloc (Obj.cells (spC g) 35)).alloc (Obj.cells (spC spZero) 35)=w2 at *
  have hz2:=HT.out.size
  obtain ⟨bS,hbS⟩:∃ z,z=w.heap.size:=⟨_,rfl⟩
  obtain ⟨bR,hbR⟩:∃ z,z=w.heap.size+1:=⟨_,rfl⟩
  rw [← hbR,← hbS]
  have hS0:blk w2 bS=spC g:=by rw [hbS];exact HT.out.fst
  have hR0:blk w2 bR=spC spZero:=by rw [hbR];exact HT.out.snd
  have HS0:=Lib.hid hS0
  have HR0:=Lib.hid hR0
  have HG2:=Lib.hid HT.out.grows
  have HBS:=Lib.hid (And.intro hbS hbR)
  clear hS0 hR0 HT hbS hbR hz2
  go_wp2_with fail
  go_loopg [5,6] f.len (fun q v5 _ wr=>∃ (i:Nat) (a c:Fr) (g1:Spn),q+i=f.len∧v5=.int .i64 i∧f=a.app c∧a.len=i∧AllNd c∧blk wr bS=spC g1∧g1.length=20∧unsetV f g=unsetV c g1∧Chg (fun b=>b=bS) w2 wr)
  case atStart=>exact ⟨0,.nil,f,g,by omega,rfl,rfl,rfl,HND.out,HS0.out,hgl,rfl,Chg.refl _ _⟩
  case round =>
   obtain ⟨i,a,c,g1,hq,rfl,hf,ha,hc,hb,hg1,hu,hch⟩:=hrel
   have hRr:blk wr bR=spC spZero:=(chg_blk hch (Blk.inHeap HR0.out (by omega)) (by have:=HBS.out;omega)).trans HR0.out
   have hsz1:(spC g1).size=20:=by rw [spC_size];exact hg1
   have HRr:=Lib.hid hRr
   have HB:=Lib.hid hb
   have HU:=Lib.hid hu
   have HCH:=Lib.hid hch
   have HGr:Grows w wr:=Chg.grows (n:=0) HG2.out hch fun b e=>by have:=HBS.out;omega
   cases c with
   | nil =>
    have hi:i=f.len:=by rw [hf,Fr.app_nil];exact ha.symm
    subst hi
    have hld:=loadSp_all wr bS (spC g1) hb hsz1
    have hst:=storeSp_all wr bR (spC g1) hRr hz0 hsz1 (spC_one _)
    clear hq hf ha hb hu hch hRr
    go_wp2_with fail
    exact bodyPost_ret (results_sp 4 rfl rfl (Blk.get _ HRr.out (by omega)) hsz1) rfl ⟨by rw [HU.out];rfl,Chg.grows (n:=0) HGr (chg_setBlkM (K:=fun b=>b=bR) rfl) fun b e=>by have:=HBS.out;omega⟩
   | cons x kids rest =>
    have hil:i < f.len:=by rw [hf,Fr.len_app,ha];simp [Fr.len]
    have i1:(i:Int) < (f.len:Int):=by omega
    have hks:kids.size+1+a.size≤f.size:=by rw [hf,Fr.size_app];simp [Fr.size];omega
    obtain ⟨hx,hck,hcr⟩:=hc
    have hAr:=HA.out.grows HGr
    obtain ⟨b1,o1,rfl,ib0⟩:=HA.out.some (by omega)
    obtain ⟨Kd,kc,hK,n0⟩:=hAr.node hf rfl
    rw [ha] at n0
    have ib1:InHeap b1 wr:=Nat.lt_of_lt_of_le ib0 HGr.below.size
    have hne:b1≠bS:=by have:=HBS.out;unfold InHeap at ib0;omega
    have d0:wr.cell? ⟨b1,o1+i*262,none⟩=some (.int .i64 (x.kind:Nat)):=n0 0 _ (ndA_0 _ _ _ _ _ _ _)
    have d1:wr.cell? ⟨b1,o1+i*262+258,none⟩=some (.int .i64 (x.n:Nat)):=by have:=n0 258 _ (ndA_258 _ _ _ _ _ _ _);rwa [← Nat.add_assoc] at this
    have d2:wr.cell? ⟨b1,o1+i*262+261,none⟩=some (.slice Kd kids.len kc):=by have:=n0 261 _ (ndA_261 _ _ _ _ _ _ _);rwa [← Nat.add_assoc] at this
    have hxn:=hx.n
    have HK:=Lib.hid hK
    have HQ:=Lib.hid hq
    have HF:=Lib.hid (And.intro hf ha)
    have HCK:=Lib.hid hck
    have HCR:=Lib.hid hcr
    have HKS:=Lib.hid hks
    have HD2:=Lib.hid d2
    obtain ⟨wx,hwx⟩:∃ z,z=wr:=⟨_,rfl⟩
    subst hwx
    clear hAr n0 hK hck hcr hks hq hf ha hx hu hch hRr
    go_upto_if 17 with fail
    go_cut [] (fun wc=>blk wc bS=spC (if x.kind=7 then spSet g1 x.n (-1) (-1) else g1)∧Chg (fun b=>b=bS) wx wc)
    case first =>
     by_cases hk:x.kind=7
     ·have k1:((x.kind:Int) == 7)=true:=by rw [hk];rfl
      have hxi:(x.n:Int) < 10:=by omega
      have hz1:0 < (spC g1).size:=by omega
      have q3:=(Blk.cell HB.out hz1 (x.n*2)).trans (spC_get (by omega))
      have q4:=(Blk.cell HB.out hz1 (x.n*2+1)).trans (spC_get (by omega))
      have q5:∀ k,wx.frozen? ⟨bS,k,none⟩=false:=fun k=>Blk.free HB.out hz1 k
      have q6:InHeap bS wx:=Blk.inHeap HB.out hz1
      generalize g1.getD (x.n*2) 0=u0 at q3
      generalize g1.getD (x.n*2+1) 0=u1 at q4
      clear hb
      go_wp2_with fail
      go_meet
      exact ⟨by rw [if_pos hk];exact sp_put HB.out hg1 _ _,sp_chg _ _ _ _ _⟩
     ·have k1:((x.kind:Int) == 7)=false:=by rw [beq_eq_false_iff_ne];omega
      go_wp2_with fail
      go_meet
      exact ⟨by rw [if_neg hk];exact HB.out,Chg.refl _ _⟩
    case rest =>
     obtain ⟨hb2,hch2⟩:=hcut
     obtain ⟨g2,hg2⟩:∃ z,(if x.kind=7 then spSet g1 x.n (-1) (-1) else g1)=z:=⟨_,rfl⟩
     rw [hg2] at hb2
     have hl2:g2.length=20:=by rw [← hg2];split;rw [spSet_len];exact hg1;exact hg1
     have HG2E:=Lib.hid hg2
     have hsz2:(spC g2).size=20:=by rw [spC_size];exact hl2
     have hsp2:span (spC g2) 0 20=spC g2:=span_all hsz2
     have iS:InHeap bS wc:=Blk.inHeap hb2 (by omega)
     have d2c:=cellC HD2.out hch2 hne
     have ib2:InHeap b1 wc:=World.block_lt_of_cell? _ _ d2c
     have HB2:=Lib.hid hb2
     have HCH2a:=Lib.hid hch2
     have HKc:=Lib.hid (HK.out.chg hch2 fun b hb ho=>by have:=HBS.out;omega)
     have hcall:=fun (m:More)=>ih kids _ Kd kc g2 (more wc m) (by have:=HN.out;have:=HKS.out;omega) (by have:=HS.out;have:=HKS.out;omega) HCK.out (HKc.out.grows ⟨m,rfl⟩) hl2
     have HCALL:=Lib.hid hcall
     clear hch2 hcall HK HD2 hb hg2
     go_upto_region 6 with fail
     refine region_tail 6 (by kernel_rfl) (by kernel_rfl) ?_
     simp only [List.take_succ_cons,List.take_zero,List.drop_succ_cons,List.drop_zero]
     repeat (go_big_quiet_step (fail))
     refine wpQuiet_nil ?_
     intro _ hw'
     obtain ⟨m2,rfl⟩:=hw'
     go_wp2_with fail
     (with_reducible refine (HCALL.out m2).mono ?_)
     rintro e9 w3 ⟨rfl,hg3⟩
     have hg3w:Grows wc w3:=Grows.trans ⟨m2,rfl⟩ hg3
     have hb3:blk w3 bS=spC g2:=blkG HB2.out (by omega) hg3w
     obtain ⟨g3,hg3e⟩:∃ z,unsetV kids g2=z:=⟨_,rfl⟩
     rw [hg3e]
     have hl3:g3.length=20:=by rw [← hg3e,unset_len2];exact hl2
     have hsz3:(spC g3).size=20:=by rw [spC_size];exact hl3
     have hst:=storeSp_all w3 bS (spC g3) hb3 hsz2 hsz3 (spC_one _)
     have HG3E:=Lib.hid hg3e
     have HB3:=Lib.hid hb3
     have HC3:Hid (Chg (fun b=>b=bS) wx (setBlk w3 bS (spC g3))):=Lib.hid (HCH2a.out.trans ((Chg.of_grows hg3w).trans (chg_setBlkM (K:=fun b=>b=bS) rfl)))
     clear hg3 hg3w hb3 hg3e
     go_wp2_with fail
     go_roundg (gk - 1)
     case measure=>have:=HQ.out;omega
     case rel =>
      refine ⟨i+1,a.app (.cons x kids .nil),rest,g3,by have:=HQ.out;omega,by go_num,by rw [Fr.app_assoc];exact HF.out.1,by rw [Fr.len_app,HF.out.2];rfl,HCR.out,Blk.get _ HB3.out (by omega),hl3,?_,HCH.out.trans HC3.out⟩
      rw [HU.out,← HG3E.out,← HG2E.out]
      rfl
end Go.Proofs.YtnjagecmhdagkaaGreatDoor
namespace Go.Proofs.YtnjagecmhdagkaaGreatDoor
open Go.RowKit
section
variable {P:Program} {ops:Array Oper} {o:Oper} {a:Act} {w:World} {t e:TypeId} {size bytes:Nat}
end
theorem WyRow.app {ok:Nat→Prop} {w:World} {b:Wy} {ys:List Value} (hb:WyRow ok w b ys):∀ {a:Wy} {xs:List Value},WyRow ok w a xs→WyRow ok w (a.app b) (xs++ys)
 | .nil,xs,h=>by cases h;exact hb
 | .cons l k r,xs,⟨A,cap,zs,us,e,h1,h2,h3,h4⟩=>⟨A,cap,zs,us++ys,by rw [e];rfl,h1,h2,WyRow.app hb h3,h4⟩
def OwnSt (base:Nat) (w:World) (v:Value) (L:List St):Prop:=∃ xs,w.ownsRow base 87 22 v L.length xs∧StRow (fun b=>base≤b∧v.ownBlock≠some b) w L xs
section
variable {base:Nat} {w w':World} {v:Value} {L:List St} {q:Nat→Prop}
theorem OwnSt.nil (base:Nat) (w:World):OwnSt base w (.slice none 0 0) []:=⟨[],World.ownsRow_nil w base _ 22,rfl⟩
theorem OwnSt.chg (h:OwnSt base w v L) (hc:Chg q w w') (hq:∀ b,base≤b→b < w.heap.size→¬ q b):OwnSt base w' v L:=by
 obtain ⟨xs,h1,h2⟩:=h
 exact ⟨xs,own_chgX h1 hc fun b hb=>hq b (own_ltX h1 hb).2 (own_ltX h1 hb).1,h2.chg hc fun b hb ho=>hq b ho.1 hb⟩
theorem OwnSt.grows (h:OwnSt base w v L) (hg:Grows w w'):OwnSt base w' v L:=h.chg (Chg.of_grows (p:=fun _=>False) hg) fun _ _ _ h=>h
theorem OwnSt.at (h:OwnSt base w v L):SsAt (fun b=>base≤b) w v L:=by
 obtain ⟨xs,h1,h2⟩:=h
 obtain ⟨A,cap,rfl,k1,k2,k3,k4,k5⟩:=own_rdX h1
 refine ⟨A,cap,xs,rfl,⟨k3,k4,k1,k2,fun _ a e=>?_⟩,h2.mono fun b _ hb=>⟨hb.1,fun a e e2=>hb.2 ?_⟩⟩
 ·obtain ⟨g,o,t⟩:=a
  exact (k5 g o t e).2.2.1
 ·obtain ⟨g,o,t⟩:=a
  rw [(k5 g o t e).2.2.2.2,e2]
theorem OwnSt.push {xs:List Value} {t:St} {A:Option Addr} {cp e' cap:Nat} (hrow:StRow (fun b=>base≤b∧v.ownBlock≠some b) w L xs)
  (hg:t.2.1.length=20) (hw:WyAt (fun b=>base≤b∧v.ownBlock≠some b) w A cp t.2.2)
  (hown:w'.ownsRow base 87 22 (.slice (some ⟨e',0,none⟩) (L.length+1) cap) (L.length+1) (xs++(stC t.1 t.2.1 (.slice A t.2.2.len cp)).toList)) (hc:Chg (fun b=>v.ownBlock=some b) w w') (he:v.ownBlock=some e'∨w.heap.size≤e') :
  OwnSt base w' (.slice (some ⟨e',0,none⟩) (L.length+1) cap) (L++[t]):=by
 have h1:∀ b,b < w.heap.size→(base≤b∧v.ownBlock≠some b)→(base≤b∧v.ownBlock≠some b)∧b < w.heap.size:=fun b hb ho=>⟨ho,hb⟩
 have h2:∀ b,b < w.heap.size→((base≤b∧v.ownBlock≠some b)∧b < w.heap.size)→¬ v.ownBlock=some b:=fun b _ ho=>ho.1.2
 have h3:∀ b,b < w'.heap.size→((base≤b∧v.ownBlock≠some b)∧b < w.heap.size)→base≤b∧(Value.slice (some ⟨e',0,none⟩) (L.length+1) cap).ownBlock≠some b:=fun b _ ho=>⟨ho.1.1,fun e=>by
  have e2:=ownBlock_slice e
  rcases he with he | he
  ·rw [e2] at ho;exact ho.1.2 he
  ·have:=ho.2;omega⟩
 exact ⟨xs++(stC t.1 t.2.1 (.slice A t.2.2.len cp)).toList,by rw [List.length_append];exact hown,StRow.app (StRow.one hg (((hw.mono h1).chg hc h2).mono h3)) (((hrow.mono h1).chg hc h2).mono h3)⟩
end
section
variable (s:List UInt8) (most:Int) (sb B:Nat)
end
section
variable {s:List UInt8} {most:Int} {sb:Nat} {w w' W:World} {e:Ending} {R:List St × Nat}
end
end Go.Proofs.YtnjagecmhdagkaaGreatDoor
