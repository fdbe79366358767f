/-
 Matches: where turns may end, walked.
-/
import Derived.Test.YtnjagecmhdagkaaGreatDoorPk29
set_option linter.unusedSimpArgs false
set_option linter.unusedVariables false
set_option maxRecDepth 3000
namespace Go.Proofs.YtnjagecmhdagkaaGreatDoor
open Go.RowKit
attribute [local go_sem ↓] zeroNm ldNm_eq stNm_eq
attribute [local go_sem] loadNm loadNm_if storeNm storeNm_if nm_one_nd nm_size_nd over_nm span_nm
section
variable {s:List UInt8} {Nm:Nat→NdV→Fr→Prop} {tb r lo:Nat}
structure TvAt (tb:Nat) (x:NdV) (K:Option Addr) (kn kc id:Nat) (A:Option Addr) (kl cap a d bT bX bA bD:Nat) (w:World):Prop where
 t:blk w bT=#[.pointer (some ⟨tb,0,none⟩)]
 x:blk w bX=nmC x (.slice K kn kc) id (.slice A kl cap)
 a:blk w bA=#[.int .i64 a]
 d:blk w bD=#[.int .i64 d]
section
variable {x:NdV} {K:Option Addr} {kn kc id:Nat} {A:Option Addr} {kl cap a d bT bX bA bD:Nat} {w w':World} {p:Nat→Prop}
theorem TvAt.lts (h:TvAt tb x K kn kc id A kl cap a d bT bX bA bD w):bT < w.heap.size∧bX < w.heap.size∧bA < w.heap.size∧bD < w.heap.size :=
 ⟨Blk.inHeap h.t (by simp),Blk.inHeap h.x (by rw [nmC_size];decide),Blk.inHeap h.a (by simp),Blk.inHeap h.d (by simp)⟩
theorem TvAt.chg (h:TvAt tb x K kn kc id A kl cap a d bT bX bA bD w) (hc:Chg p w w') (hp:¬ p bT∧¬ p bX∧¬ p bA∧¬ p bD):TvAt tb x K kn kc id A kl cap a d bT bX bA bD w' :=
 ⟨(chg_blk hc h.lts.1 hp.1).trans h.t,(chg_blk hc h.lts.2.1 hp.2.1).trans h.x,(chg_blk hc h.lts.2.2.1 hp.2.2.1).trans h.a,(chg_blk hc h.lts.2.2.2 hp.2.2.2).trans h.d⟩
theorem TvAt.grows (h:TvAt tb x K kn kc id A kl cap a d bT bX bA bD w) (hg:Grows w w'):TvAt tb x K kn kc id A kl cap a d bT bX bA bD w':=h.chg (Chg.of_grows (p:=fun _=>False) hg) ⟨fun h=>h,fun h=>h,fun h=>h,fun h=>h⟩
theorem TvAt.mx (h:TvAt tb x K kn kc id A kl cap a d bT bX bA bD w):w.cell? ⟨bX,260,none⟩=some (.int .i64 x.mx):=((Blk.cell h.x (by rw [nmC_size];decide) 260).trans (nmA_lt (ndA_size _ _ _ _ _ _ _) (by decide))).trans (ndA_260 _ _ _ _ _ _ _)
theorem TvAt.mn (h:TvAt tb x K kn kc id A kl cap a d bT bX bA bD w):w.cell? ⟨bX,259,none⟩=some (.int .i64 x.mn):=((Blk.cell h.x (by rw [nmC_size];decide) 259).trans (nmA_lt (ndA_size _ _ _ _ _ _ _) (by decide))).trans (ndA_259 _ _ _ _ _ _ _)
theorem TvAt.idc (h:TvAt tb x K kn kc id A kl cap a d bT bX bA bD w):w.cell? ⟨bX,262,none⟩=some (.int .i64 id):=(Blk.cell h.x (by rw [nmC_size];decide) 262).trans (nmA_262 (ndA_size _ _ _ _ _ _ _))
theorem TvAt.kids (h:TvAt tb x K kn kc id A kl cap a d bT bX bA bD w):w.cell? ⟨bX,263,none⟩=some (.slice A kl cap):=(Blk.cell h.x (by rw [nmC_size];decide) 263).trans (nmA_263 (ndA_size _ _ _ _ _ _ _))
theorem TvAt.dc (h:TvAt tb x K kn kc id A kl cap a d bT bX bA bD w):w.cell? ⟨bD,0,none⟩=some (.int .i64 d):=Blk.cell h.d (by simp) 0
theorem TvAt.ac (h:TvAt tb x K kn kc id A kl cap a d bT bX bA bD w):w.cell? ⟨bA,0,none⟩=some (.int .i64 a):=Blk.cell h.a (by simp) 0
theorem TvAt.tc (h:TvAt tb x K kn kc id A kl cap a d bT bX bA bD w):w.cell? ⟨bT,0,none⟩=some (.pointer (some ⟨tb,0,none⟩)):=Blk.cell h.t (by simp) 0
end
structure TsAt (s:List UInt8) (Nm:Nat→NdV→Fr→Prop) (tb r lo:Nat) (x:NdV) (K:Option Addr) (kn kc id:Nat) (A:Option Addr) (kl cap a d bT bX bA bD bS bB bp:Nat) (q:Nat→Prop) (P:Pl) (w w':World):Prop where
 tv:TvAt tb x K kn kc id A kl cap a d bT bX bA bD w'
 sp:blk w' bS=#[.int .i64 id,.int .i64 a,.int .i64 d]
 pb:blk w' bB=#[plV bp (wds s.length)]
 tab:TbAt s Nm tb r lo (fun y=>q y∧y≠bp) w'
 pl:PlAt w' bp (wds s.length) P
 chg:Chg (fun y=>y=r) w w'
 ne:(bT≠r∧bX≠r∧bA≠r∧bD≠r∧bS≠r∧bB≠r∧bp≠r∧bp≠tb)∧bT≠bp∧bX≠bp∧bA≠bp∧bD≠bp∧bS≠bp∧bB≠bp
 low:w.heap.size≤bp∧lo≤bp
section
variable {x:NdV} {K:Option Addr} {kn kc id:Nat} {A:Option Addr} {kl cap a d bT bX bA bD bS bB bp:Nat} {q:Nat→Prop} {P P':Pl} {w w' w2:World}
theorem TsAt.step (h:TsAt s Nm tb r lo x K kn kc id A kl cap a d bT bX bA bD bS bB bp q P w w') (hc:Chg (fun y=>y=r∨y=bp) w' w2) (ht:TbAt s Nm tb r lo (fun y=>q y∧y≠bp) w2) (hp:PlAt w2 bp (wds s.length) P'):TsAt s Nm tb r lo x K kn kc id A kl cap a d bT bX bA bD bS bB bp q P' w w2:=by
 obtain ⟨⟨n1,n2,n3,n4,n5,n6,n7,n8⟩,m1,m2,m3,m4,m5,m6⟩:=h.ne
 exact ⟨h.tv.chg hc ⟨fun e=>e.elim n1 m1,fun e=>e.elim n2 m2,fun e=>e.elim n3 m3,fun e=>e.elim n4 m4⟩,(chg_blk hc (Blk.inHeap h.sp (by simp)) fun e=>e.elim n5 m5).trans h.sp,(chg_blk hc (Blk.inHeap h.pb (by simp)) fun e=>e.elim n6 m6).trans h.pb,ht,hp,chg_late h.chg hc fun y hy e=>by have:=h.low;omega,h.ne,h.low⟩
theorem TsAt.grows (h:TsAt s Nm tb r lo x K kn kc id A kl cap a d bT bX bA bD bS bB bp q P w w') (hg:Grows w' w2):TsAt s Nm tb r lo x K kn kc id A kl cap a d bT bX bA bD bS bB bp q P w w2:=h.step (Chg.of_grows hg) (h.tab.grows hg) (h.pl.grows hg)
theorem TsAt.pc (h:TsAt s Nm tb r lo x K kn kc id A kl cap a d bT bX bA bD bS bB bp q P w w'):w'.cell? ⟨bB,0,none⟩=some (plV bp (wds s.length)):=Blk.cell h.pb (by simp) 0
end
set_option maxRecDepth 100000 in
set_option maxHeartbeats 8000000 in
theorem turns_step (hs:s.length≤60000) (hN:NumOk Nm) {x:NdV} {k:Fr} (hrow:RowC s Nm tb r lo k) (a d:Nat) (ha:a≤s.length) (hd:d≤100000)
  (ih:moreD x (capD x d)=true→∀ i,i≤s.length→endsF s k a i=true→(a < i∨capD x d < x.mn)→TurnsC s Nm tb r lo x k i (capD x d+1)):TurnsC s Nm tb r lo x k a d:=by
 intro id K kn kc A cap q w hid hall hnf ht hq
 have hW:=wds_le hs
 obtain ⟨hok,hidl⟩:=hN.ok id x k hid
 have hmn:=hok.mn
 have hmx:=hok.mx
 have H:=Lib.hid ht
 have HNF:=Lib.hid hnf
 have HALL:=Lib.hid hall
 have HQ:=Lib.hid hq
 have HID:=Lib.hid hid
 have HIH0:=Lib.hid ih
 have HN:=Lib.hid hN
 have irw:r < w.heap.size:=ht.rlt
 have itw:tb < w.heap.size:=ht.inh
 clear ht hnf hall hq hid ih hN hok
 obtain ⟨dc,hdc⟩:∃ dc,capD x d=dc:=⟨_,rfl⟩
 have hdcl:dc≤100000:=by rw [← hdc];unfold capD;split <;> omega
 have HIH:Hid (moreD x dc=true→∀ i,i≤s.length→endsF s k a i=true→(a < i∨dc < x.mn)→TurnsC s Nm tb r lo x k i (dc+1)):=Lib.hid (by rw [← hdc];exact HIH0.out)
 have HDC:=Lib.hid hdc
 clear hdc HIH0
 go_enter Tryz.func95,Tryz.ntmps95
 go_upto_region 1 with fail
 have hL:=((((LaidAt.start w).alloc #[.pointer (some ⟨tb,0,none⟩)] 112).alloc (nmC x (.slice K kn kc) id (.slice A k.len cap)) 102).alloc #[.int .i64 a] 3).alloc #[.int .i64 d] 3
 generalize (((w.alloc (Obj.cells #[.pointer (some ⟨tb,0,none⟩)] 112)).alloc (Obj.cells (nmC x (.slice K kn kc) id (.slice A k.len cap)) 102)).alloc (Obj.cells #[.int .i64 a] 3)).alloc (Obj.cells #[.int .i64 d] 3)=w1 at *
 obtain ⟨bD,hbD⟩:∃ z,z=w.heap.size+1+1+1:=⟨_,rfl⟩
 obtain ⟨bA,hbA⟩:∃ z,z=w.heap.size+1+1:=⟨_,rfl⟩
 obtain ⟨bX,hbX⟩:∃ z,z=w.heap.size+1:=⟨_,rfl⟩
 obtain ⟨bT,hbT⟩:∃ z,z=w.heap.size:=⟨_,rfl⟩
 rw [← hbD,← hbA,← hbX,← hbT]
 have hT1:TvAt tb x K kn kc id A k.len cap a d bT bX bA bD w1:=⟨by rw [hbT];exact hL.blk 0 _ rfl,by rw [hbX];exact hL.blk 1 _ rfl,by rw [hbA];exact hL.blk 2 _ rfl,by rw [hbD];exact hL.blk 3 _ rfl⟩
 have hg1:=hL.grows
 have hz1:w1.heap.size=w.heap.size+4:=hL.size
 clear hL
 have cmx:=hT1.mx
 have cmn:=hT1.mn
 have cd:=hT1.dc
 have fd:∀ j,w1.frozen? ⟨bD,j,none⟩=false:=fun j=>Blk.free hT1.d (by simp) j
 have i3:InHeap bD w1:=hT1.lts.2.2.2
 have HT1:=Lib.hid hT1
 have HG1:=Lib.hid hg1
 have HB:Hid (bT=w.heap.size∧bX=w.heap.size+1∧bA=w.heap.size+1+1∧bD=w.heap.size+1+1+1):=Lib.hid ⟨hbT,hbX,hbA,hbD⟩
 clear hT1 hg1 hbT hbX hbA hbD
 go_upto_if 16 with fail
 go_cut [] (fun wx=>TvAt tb x K kn kc id A k.len cap a dc bT bX bA bD wx∧Grows w wx∧wx.heap.size=w.heap.size+4)
 case first =>
  have hlt:=HT1.out.lts
  by_cases hmx0:x.mx < 0
  ·have hde:min d x.mn=dc:=by have:=HDC.out;unfold capD at this;rw [if_pos hmx0] at this;exact this
   have hmin:min (d:Int) (x.mn:Int)=(dc:Int):=by omega
   have hput:TvAt tb x K kn kc id A k.len cap a dc bT bX bA bD (w1.setCell ⟨bD,0,none⟩ (.int .i64 dc)):=by
    have hc:=chg_cell w1 bD 0 (.int .i64 dc)
    obtain ⟨h1,h2,h3,h4⟩:=HB.out
    refine ⟨(chg_blk hc hlt.1 (by omega)).trans HT1.out.t,(chg_blk hc hlt.2.1 (by omega)).trans HT1.out.x,(chg_blk hc hlt.2.2.1 (by omega)).trans HT1.out.a,?_⟩
    rw [pa_put HT1.out.d (by simp)]
    simp
   have hgp:Grows w (w1.setCell ⟨bD,0,none⟩ (.int .i64 dc)):=Chg.grows (n:=0) HG1.out (chg_cell w1 bD 0 (.int .i64 dc)) fun b e=>by subst e;have:=HB.out.2.2.2;omega
   have HPUT:=Lib.hid (And.intro hput hgp)
   clear hput hgp hlt hde
   go_wp2_with fail
   go_meet
   exact ⟨HPUT.out.1,HPUT.out.2,by simpa using hz1⟩
  ·have hde:d=dc:=by have:=HDC.out;unfold capD at this;rw [if_neg hmx0] at this;exact this
   subst hde
   have hmb:decide (x.mx < 0)=false:=decide_eq_false hmx0
   clear hlt
   go_wp2_with fail
   go_meet
   exact ⟨HT1.out,HG1.out,hz1⟩
 case rest =>
  obtain ⟨hT2,hg2,hz2⟩:=hcut
  clear cmx cmn cd fd i3 HT1 HG1 hz1
  have e1:=hT2.idc
  have e2:=hT2.dc
  have e3:=hT2.ac
  have e4:=hT2.tc
  have i1:InHeap bX wc:=hT2.lts.2.1
  have i2:InHeap bD wc:=hT2.lts.2.2.2
  have i3:InHeap bA wc:=hT2.lts.2.2.1
  have i4:InHeap bT wc:=hT2.lts.1
  have HT2:=Lib.hid hT2
  have T2:=Lib.hid (H.out.grows hg2)
  have HG2:=Lib.hid hg2
  have hT3:=hT2.grows ((Grows.refl wc).alloc (.cells (spC [(id:Int),(a:Int),(dc:Int)]) 192))
  have tb3:=T2.out.grows ((Grows.refl wc).alloc (.cells (spC [(id:Int),(a:Int),(dc:Int)]) 192))
  have hg3:=hg2.alloc (.cells (spC [(id:Int),(a:Int),(dc:Int)]) 192)
  have hbS3:blk (wc.alloc (.cells (spC [(id:Int),(a:Int),(dc:Int)]) 192)) (w.heap.size+4)=spC [(id:Int),(a:Int),(dc:Int)]:=blk_alloc_at _ _ _ _ hz2.symm
  have hz3:(wc.alloc (.cells (spC [(id:Int),(a:Int),(dc:Int)]) 192)).heap.size=w.heap.size+5:=by simp [hz2]
  have hsp:spC [(id:Int),(a:Int),(dc:Int)]=#[.int .i64 id,.int .i64 a,.int .i64 dc]:=rfl
  rw [hsp] at hT3 tb3 hg3 hbS3 hz3
  clear hT2 hg2 HT2 T2 HG2 hsp
  go_upto_region 4 with fail
  clear e1 e2 e3 e4 i1 i2 i3 i4 hz2
  obtain ⟨bS,hbS⟩:∃ z,z=w.heap.size+4:=⟨_,rfl⟩
  rw [← hbS] at hbS3 ⊢
  have HBS:=Lib.hid hbS
  generalize wc.alloc (.cells #[.int .i64 (id:Int),.int .i64 (a:Int),.int .i64 (dc:Int)] 192)=w3 at *
  clear hbS
  have s0:w3.cell? ⟨bS,0,none⟩=some (.int .i64 id):=Blk.cell hbS3 (by simp) 0
  have s1:w3.cell? ⟨bS,1,none⟩=some (.int .i64 a):=Blk.cell hbS3 (by simp) 1
  have s2:w3.cell? ⟨bS,2,none⟩=some (.int .i64 dc):=Blk.cell hbS3 (by simp) 2
  have e4:=hT3.tc
  have m1:w3.cell? ⟨tb,1,none⟩=some (.map (some r)):=Blk.cell tb3.tab (by simp) 1
  have itb:InHeap tb w3:=tb3.inh
  have ibT:InHeap bT w3:=hT3.lts.1
  have ibS:InHeap bS w3:=Blk.inHeap hbS3 (by simp)
  obtain ⟨v,ok,hlk0,hent⟩:=run_lookup_spot id a dc w3 tb3.map
  have hlk:=hlk0 w3 rfl
  have hlkn:∀ n,(Instr.lookup tMap (.map (some r)) (spotV id a dc) true).run Tryz.prog (w3.drewN n)=.ok (.tuple #[v,.bool ok]) (w3.drewN n):=fun n=>hlk0 _ rfl
  have hlkd:(Instr.lookup tMap (.map (some r)) (spotV id a dc) true).run Tryz.prog w3.drew=.ok (.tuple #[v,.bool ok]) w3.drew:=hlk0 _ rfl
  have HT3:=Lib.hid hT3
  have TB3:=Lib.hid tb3
  have HG3:=Lib.hid hg3
  have HBS3:=Lib.hid hbS3
  have HENT:=Lib.hid hent
  clear hT3 tb3 hg3 hbS3 hlk0 hent
  go_quiet (fail)
  have hg4:Grows w3 (w3.drewN nq):=(Grows.refl _).drewN _
  have HT4:=Lib.hid (HT3.out.grows hg4)
  have TB4:=Lib.hid (TB3.out.grows hg4)
  have HG4:=Lib.hid (HG3.out.trans hg4)
  have HBS4:Hid (blk (w3.drewN nq) bS=#[.int .i64 id,.int .i64 a,.int .i64 dc]):=Lib.hid HBS3.out
  have hz4:(w3.drewN nq).heap.size=w.heap.size+5:=hz3
  have HENT4:Hid (ok=true→EntryQ s Nm r tb q (w3.drewN nq) id a dc v):=Lib.hid fun h=>by
   obtain ⟨i,a',d',y,l,b,h1,h2,h3,h4,h5,h6,h7,h8,h9⟩:=HENT.out h
   exact ⟨i,a',d',y,l,b,h1,h2,h3,h4,h5,h6,h7,h8,h9.grows hg4⟩
  clear s0 s1 s2 e4 m1 itb ibT ibS hlk hlkn hlkd HT3 TB3 HG3 HBS3 HENT hz3 hg4
  generalize w3.drewN nq=w4 at *
  cases ok with
  | true =>
   obtain ⟨i,a',d',y,l,b,h1,h2,h3,h4,h5,h6,h7,h8,h9⟩:=HENT4.out rfl
   obtain rfl:id=i:=by omega
   obtain rfl:a=a':=by omega
   obtain rfl:dc=d':=by omega
   obtain ⟨rfl,rfl⟩:=HN.out.one _ _ _ _ _ HID.out h4
   subst h5
   have e:=turnsS_cap s.length x (endsF s k) a d
   rw [HDC.out] at e
   rw [e] at h9
   have H9:=Lib.hid (And.intro h9 h6)
   clear e h9 h6 h4 h1 h2 h3 HENT4
   go_wp2_with fail
   go_ret
   exact ⟨b,rfl,H9.out.1,H9.out.2,h7,h8,TB4.out,Chg.of_grows HG4.out⟩
  | false =>
   clear HENT4
   have e4:=HT4.out.tc
   have ibT:InHeap bT w4:=HT4.out.lts.1
   have hcall:=empty_any TB4.out.tab hs
   go_wp2_with fail
   (with_reducible refine hcall.mono ?_)
   rintro e w5 ⟨bp,rfl,hP5,hlo5,hg5⟩
   obtain ⟨bB,hbB⟩:∃ z,z=w5.heap.size:=⟨_,rfl⟩
   have HBB:=Lib.hid hbB
   have hS6:TsAt s Nm tb r lo x K kn kc id A k.len cap a dc bT bX bA bD bS bB bp q (fun _=>false) w (w5.alloc (.cells #[plV bp (wds s.length)] 117)):=by
    have hg6:Grows w5 (w5.alloc (.cells #[plV bp (wds s.length)] 117)):=(Grows.refl _).alloc _
    have hg46:=hg5.trans hg6
    have hbp:=hP5.inh
    unfold InHeap at hbp
    obtain ⟨h1,h2,h3,h4⟩:=HB.out
    have h5:=HBS.out
    have h6:=TB4.out.ltb
    have h7:=TB4.out.lr
    have h8:=hg5.below.size
    refine ⟨HT4.out.grows hg46,(chg_blk (Chg.of_grows (p:=fun _=>False) hg46) (Blk.inHeap HBS4.out (by simp)) (fun h=>h)).trans HBS4.out,blk_alloc_at _ _ _ _ hbB,(TB4.out.away hlo5).grows hg46,hP5.grows hg6,Chg.of_grows (HG4.out.trans hg46),?_,by omega⟩
    omega
   have S6:=Lib.hid hS6
   clear hcall hS6 e4 ibT hlo5 hP5 hg5 HT4 TB4 HBS4
   go_upto_region 8 with fail
   rw [← hbB]
   clear hbB
   generalize w5.alloc (.cells #[plV bp (wds s.length)] 117)=w6 at *
   have e1:=S6.out.tv.mn
   have e2:=S6.out.tv.dc
   have e3:=S6.out.tv.ac
   have e4:=S6.out.pc
   go_upto_if 44 with fail
   go_cut [] (fun wx=>TsAt s Nm tb r lo x K kn kc id A k.len cap a dc bT bX bA bD bS bB bp q (fun j=>decide (x.mn≤dc) && decide (j=a)) w wx)
   case first =>
    by_cases hmd:x.mn≤dc
    ·have hset:=set_any S6.out.pl a (wds_lt ha) hW
     go_wp2_with fail
     (with_reducible refine hset.mono ?_)
     rintro e w7 ⟨rfl,hP7,hC7⟩
     have hP8:PlAt w7 bp (wds s.length) (fun j=>decide (x.mn≤dc) && decide (j=a)):=by
      have:addP (fun _=>false) a=fun j=>decide (x.mn≤dc) && decide (j=a):=by funext j;simp [addP,hmd]
      rw [← this];exact hP7
     have S7:=Lib.hid (S6.out.step (hC7.mono fun _ _ h=>.inr h) (S6.out.tab.put hC7 (fun h=>h.2 rfl) S6.out.ne.1.2.2.2.2.2.2.1 S6.out.ne.1.2.2.2.2.2.2.2 S6.out.low.2) hP8)
     clear hset hP7 hC7 hP8
     go_wp2_with fail
     go_meet
     exact S7.out
    ·have hmb:decide (x.mn≤dc)=false:=decide_eq_false hmd
     go_wp2_with fail
     go_meet
     refine S6.out.step (Chg.refl _ _) S6.out.tab ?_
     have:(fun _=>false:Pl)=fun j=>decide (x.mn≤dc) && decide (j=a):=by funext j;rw [hmb];rfl
     rw [← this]
     exact S6.out.pl
   case rest =>
    have S7:=Lib.hid hcut
    clear hcut e1 e2 e3 e4 S6
    have e1:=S7.out.tv.mx
    have e2:=S7.out.tv.dc
    obtain ⟨M,hM⟩:∃ M,moreD x dc=M:=⟨_,rfl⟩
    go_upto_region 10 with fail
    go_cut [58] (fun v58 wx=>v58=.bool M∧wx=wc)
    case first =>
     unfold moreD at hM
     by_cases h1:x.mx < 0
     ·have hMt:M=true:=by rw [← hM,decide_eq_true h1];rfl
      subst hMt
      go_wp2_with fail
      go_meet
      exact ⟨rfl,rfl⟩
     ·have h1b:decide (x.mx < 0)=false:=decide_eq_false h1
      rw [h1b,Bool.false_or] at hM
      go_wp2_with fail
      go_meet
      exact ⟨rfl,rfl⟩
    case rest =>
     obtain ⟨rfl,hw⟩:=hcut
     have hw:=hw.symm
     subst hw
     have HM:=Lib.hid hM
     clear hM e1 e2
     go_upto_if 58 with fail
     go_cut [] (fun wx=>TsAt s Nm tb r lo x K kn kc id A k.len cap a dc bT bX bA bD bS bB bp q (fun j=>(decide (x.mn≤dc) && decide (j=a)) || (M && anyTo s.length fun i=>endsF s k a i && turnE s x k a dc i j)) w wx)
     case first =>
      cases M with
      | false =>
       go_wp2_with fail
       go_meet
       refine S7.out.step (Chg.refl _ _) S7.out.tab ?_
       have:(fun j=>decide (x.mn≤dc) && decide (j=a):Pl)=fun j=>(decide (x.mn≤dc) && decide (j=a)) || (false && anyTo s.length fun i=>endsF s k a i && turnE s x k a dc i j):=by funext j;simp
       rw [← this]
       exact S7.out.pl
      | true =>
       have hNF:NfAt (fun b=>b < lo) wc A cap k (id+1):=HNF.out.chg S7.out.chg fun b _ hb e=>by have:=S7.out.tab.lr;omega
       have hsz7:=S7.out.chg.size
       have hq7:∀ b,wc.heap.size≤b→(fun y=>q y∧y≠bp) b:=fun b hb=>⟨HQ.out b (by omega),fun e=>by have h9:bp < wc.heap.size:=S7.out.pl.inh;omega⟩
       have hcall:=hrow (id+1) A cap a (fun y=>q y∧y≠bp) wc HALL.out hNF S7.out.tab hq7 ha
       have e1:=S7.out.tv.tc
       have e2:=S7.out.tv.kids
       have e3:=S7.out.tv.ac
       have HNF7:=Lib.hid hNF
       have HQ7:=Lib.hid hq7
       clear hNF hq7
       go_wp2_with fail
       (with_reducible refine hcall.mono ?_)
       rintro e w8 ⟨bR,rfl,hP8,hlo8,hT8,hC8⟩
       have S8:=S7.out.step (hC8.mono fun _ _ h=>.inl h) hT8 (S7.out.pl.chg hC8 S7.out.ne.1.2.2.2.2.2.2.1)
       have hsz8:=hC8.size
       have hNF8:NfAt (fun b=>b < lo) w8 A cap k (id+1):=HNF7.out.chg hC8 fun b _ hb e=>by have:=S7.out.tab.lr;omega
       have hin:∀ i,endsF s k a i=true→i≤s.length:=fun i h=>(endsF_rises s k a i ha h).2
       have hbpw:bp < wc.heap.size:=S7.out.pl.inh
       have hrw:r < wc.heap.size:=S7.out.tab.rlt
       have hV:EachV (.func (.func 109) #[] #[.pointer (some ⟨bA,0,none⟩),.pointer (some ⟨bD,0,none⟩),.pointer (some ⟨bX,0,none⟩),.pointer (some ⟨bB,0,none⟩),.pointer (some ⟨bT,0,none⟩)]) (wds s.length) (endsF s k a) 109 #[.pointer (some ⟨bA,0,none⟩),.pointer (some ⟨bD,0,none⟩),.pointer (some ⟨bX,0,none⟩),.pointer (some ⟨bB,0,none⟩),.pointer (some ⟨bT,0,none⟩)]
         (fun j wj=>PlAt wj bp (wds s.length) (accP (fun j=>decide (x.mn≤dc) && decide (j=a)) (endsF s k a) (turnE s x k a dc) j)∧TbAt s Nm tb r lo (fun y=>q y∧y≠bp) wj∧Chg (fun y=>y=r∨y=bp) w8 wj):=by
        refine ⟨rfl,enters_turns1,fun j wj hj hPj ⟨h1,h2,h3⟩=>?_,fun j wj hPj ⟨h1,h2,h3⟩=>⟨by rw [acc_skip hPj];exact h1,h2,h3⟩⟩
        have hsz:=h3.size
        have Sj:=S8.step h3 h2 h1
        refine (turns1_any a dc j (fun hgo=>HIH.out HM.out j (hin j hPj) hPj hgo) id K kn kc A cap bp _ (fun y=>q y∧y≠bp) wj hs Sj.tv.a Sj.tv.d Sj.tv.x Sj.pb Sj.tv.t HID.out HALL.out (hNF8.chg h3 fun b _ hb e=>by have:=S7.out.tab.lr;have:=S7.out.low.2;omega) h2 (fun b hb=>HQ7.out b (by omega)) (hin j hPj) (by omega) h1 (fun h=>h.2 rfl) Sj.ne.1.2.2.2.2.2.2.1 Sj.ne.1.2.2.2.2.2.2.2 Sj.low.2 Sj.ne.1.2.2.2.2.2.1).mono ?_
        rintro e w' ⟨rfl,g1,g2,g3⟩
        exact ⟨rfl,by rw [acc_next hPj];exact g1,g2,h3.trans g3⟩
       have heach:=each_any (w:=w8) (b:=bR) hV ⟨by rw [acc_zero];exact S8.pl,S8.tab,Chg.refl _ _⟩ (fun j wj ⟨h1,h2,h3⟩=>hP8.chg h3 fun e=>by omega) (fun j wj ⟨h1,h2,h3⟩=>h2.tz) hW
       have HACC:=Lib.hid (acc_all (B:=fun j=>decide (x.mn≤dc) && decide (j=a)) (E:=turnE s x k a dc) hin (wds_lt (Nat.le_refl s.length)))
       have HS8:=Lib.hid S8
       clear hV hcall S8 hNF8 hin hP8 hT8 hC8 e1 e2 e3
       go_wp2_with fail
       (with_reducible refine heach.mono ?_)
       rintro e w9 ⟨rfl,hP9,hT9,hC9⟩
       rw [HACC.out] at hP9
       have S9:=Lib.hid (HS8.out.step hC9 hT9 hP9)
       clear heach hP9 hT9 hC9
       go_wp2_with fail
       go_meet
       exact S9.out
     case rest =>
      have S9:=Lib.hid hcut
      clear hcut S7
      obtain ⟨o,hu0,hmap⟩:=run_update_spot id a dc (plV bp (wds s.length)) wc S9.out.tab.map
      have hu:=hu0 wc rfl
      have hun:∀ n,(Instr.mapUpdate tMap (.map (some r)) (spotV id a dc) (plV bp (wds s.length))).run Tryz.prog (wc.drewN n)=.ok () (putO (wc.drewN n) r o):=fun n=>hu0 _ rfl
      have hud:(Instr.mapUpdate tMap (.map (some r)) (spotV id a dc) (plV bp (wds s.length))).run Tryz.prog wc.drew=.ok () (putO wc.drew r o):=hu0 _ rfl
      have hpbr:bB≠r:=S9.out.ne.1.2.2.2.2.2.1
      have hcp:∀ w':World,(putO w' r o).cell? ⟨bB,0,none⟩=w'.cell? ⟨bB,0,none⟩:=fun w'=>World.cell?_of_block (putO_ne hpbr)
      have hval:(fun j=>(decide (x.mn≤dc) && decide (j=a)) || (M && anyTo s.length fun i=>endsF s k a i && turnE s x k a dc i j):Pl)=turnsS s.length x (endsF s k) a d:=by
       funext j
       rw [turnsS_eq (endsF_rises s k) ha,HDC.out,HM.out]
       unfold turnE
       congr 2
       simp only [Bool.and_assoc]
      have hqbp:q bp:=HQ.out bp S9.out.low.1
      have hdone:∀ (w1 w2:World),w1.heap=wc.heap→Grows wc w1→Grows (putO w1 r o) w2→PlAt w2 bp (wds s.length) (turnsS s.length x (endsF s k) a d)∧q bp∧bp≠r∧bp≠tb∧TbAt s Nm tb r lo q w2∧Chg (fun x=>x=r) w w2:=by
       intro w1 w2 h1 h2 h3
       have hcp2:Chg (fun b=>b=r) w1 (putO w1 r o):=Chg.putO (p:=fun b=>b=r) rfl o
       have hbr:=S9.out.ne.1.2.2.2.2.2.2.1
       have hbt:=S9.out.ne.1.2.2.2.2.2.2.2
       have hp1:=(S9.out.pl.grows h2).chg hcp2 hbr
       have ht1:=S9.out.tab.grows h2
       have htab:TbAt s Nm tb r lo q (putO w1 r o):=by
        refine ⟨(chg_blk hcp2 ht1.inh fun e=>ht1.ne e).trans ht1.tab,?_,ht1.tz.chg hcp2 (fun e=>by have:=ht1.ltz;have:=ht1.lr;omega),ht1.ne,ht1.ltb,ht1.lr,ht1.ltz⟩
        refine hmap w1 _ h1 (fun i a' d' v ⟨i2,a2,d2,y,l,b,g1,g2,g3,g4,g5,g6,g7,g8,g9⟩=>⟨i2,a2,d2,y,l,b,g1,g2,g3,g4,g5,g6.1,g7,g8,(g9.grows h2).chg hcp2 g7⟩) ?_
        refine ⟨id,a,dc,x,k,bp,rfl,rfl,rfl,HID.out,rfl,hqbp,hbr,hbt,?_⟩
        have e9:=turnsS_cap s.length x (endsF s k) a d
        rw [HDC.out] at e9
        rw [e9,← hval]
        exact hp1
       exact ⟨by rw [← hval];exact hp1.grows h3,hqbp,hbr,hbt,htab.grows h3,S9.out.chg.trans ((Chg.of_grows h2).trans (hcp2.trans (Chg.of_grows h3)))⟩
      have HDONE:=Lib.hid hdone
      have e1:=S9.out.tv.tc
      have e2:=S9.out.pc
      have s0:wc.cell? ⟨bS,0,none⟩=some (.int .i64 id):=Blk.cell S9.out.sp (by simp) 0
      have s1:wc.cell? ⟨bS,1,none⟩=some (.int .i64 a):=Blk.cell S9.out.sp (by simp) 1
      have s2:wc.cell? ⟨bS,2,none⟩=some (.int .i64 dc):=Blk.cell S9.out.sp (by simp) 2
      have m1:wc.cell? ⟨tb,1,none⟩=some (.map (some r)):=Blk.cell S9.out.tab.tab (by simp) 1
      have i1:InHeap tb wc:=S9.out.tab.inh
      have i2:InHeap bT wc:=S9.out.tv.lts.1
      have i3:InHeap bS wc:=Blk.inHeap S9.out.sp (by simp)
      have i4:InHeap bB wc:=Blk.inHeap S9.out.pb (by simp)
      clear hdone hval hqbp hmap hu0
      go_upto_region 12 with fail
      go_region_law (fail)
      all_goals
       go_wp2_with fail
       go_ret
       exact ⟨bp,rfl,HDONE.out wc.drew _ rfl ((Grows.refl _).drew) (by repeat' first | exact Grows.refl _ | refine Grows.drewN ?_ _ | refine Grows.drew ?_)⟩
end
end Go.Proofs.YtnjagecmhdagkaaGreatDoor
