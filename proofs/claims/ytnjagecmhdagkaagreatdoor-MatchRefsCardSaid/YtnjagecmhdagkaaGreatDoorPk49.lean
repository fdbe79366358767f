/-
 Several texts of the proof: MatDh, MatEq, MatRefL.
-/
import Derived.Test.YtnjagecmhdagkaaGreatDoorPk48
import Derived.Test.YtnjagecmhdagkaaGreatDoorPk38
import Derived.Test.YtnjagecmhdagkaaGreatDoorPk39
import Derived.Test.YtnjagecmhdagkaaGreatDoorPk16
set_option linter.unusedSimpArgs false
set_option linter.unusedVariables false
/-
  Matches, the document's answer for a pattern with references, walked.
-/
namespace Go.Proofs.YtnjagecmhdagkaaGreatDoor
open Go.RowKit
set_option maxRecDepth 3000 in
theorem spent_over {fuel:Int} (h:fuel < 0) (σ:Sg):overB fuel σ=true:=by
 unfold overB
 rw [decide_eq_true_eq]
 omega
set_option maxRecDepth 3000 in
theorem refs_same {s:List UInt8} {f:Fr} {k fuel:Int}:(if fuel < ((allRk s f (max fuel 0) k 0).2.2:Int) then (spZero,false,(100:Int)) else ((allRk s f (max fuel 0) k 0).1,(allRk s f (max fuel 0) k 0).2.1,0))=matchR s f true k fuel:=by
 unfold matchR allRk
 by_cases hk:k < 0∨(s.length:Int) < k
 ·rw [if_pos hk,if_pos hk]
  by_cases hf:fuel < 0
  ·rw [if_pos (by simpa using hf),if_pos ⟨rfl,hf⟩]
  ·rw [if_neg (by simpa using hf),if_neg (fun h=>hf h.2)]
 ·rw [if_neg hk,if_neg hk,if_pos rfl]
  by_cases hf:fuel < 0
  ·obtain ⟨m,hm⟩:∃ m,s.length+1 - k.toNat=m+1:=⟨s.length - k.toNat,by omega⟩
   have e:allF s f fuel (s.length+1 - k.toNat) k.toNat ⟨0,none⟩=none:=by
    rw [hm]
    unfold allF
    rw [if_neg (by simp),if_pos (spent_over hf _)]
   rw [e,if_pos (by omega)]
  ·have hm:max fuel 0=fuel:=by omega
   rw [hm]
   have h:=all_eq (s:=s) (f:=f) (fuel:=fuel) (by omega) (s.length+1 - k.toNat) k.toNat 0 (by omega)
   cases hF:allF s f fuel (s.length+1 - k.toNat) k.toNat ⟨0,none⟩ with
   | none =>
    rw [hF] at h
    dsimp only at h ⊢
    rw [if_pos h]
   | some σ =>
    rw [hF] at h
    dsimp only at h ⊢
    rw [if_neg (by omega)]
    cases hb:σ.best with
    | none =>
     rw [hb] at h
     dsimp only at h ⊢
     have h2:=h.2
     injection h2 with h3 h4
     rw [h3,h4]
    | some y =>
     rw [hb] at h
     dsimp only at h ⊢
     have h2:=h.2
     injection h2 with h3 h4
     rw [h3,h4]
attribute [local go_sem ↓] ldSp_eq stSp_eq zeroSp
attribute [local go_sem] loadSp loadSp_if storeSp storeSp_if spC_one
section
variable {s:List UInt8}
set_option maxRecDepth 100000 in
set_option maxHeartbeats 4000000 in
theorem docmatch_any (hs:s.length≤60000) {fuel:Int} (hfu:fuel≤800000) (hfi:I64 fuel) {f:Fr} (hnd:AllNd f) (hfz:f.size≤1000) (A:Option Addr) (cap rb:Nat) (k:Int) (x1 x2:Value) (w:World) (hrb:blk w rb=#[.slice A f.len cap,x1,x2,.bool true]) (hA:FrAt (fun _=>True) w A cap f) (hk:I64 k) :
  Calls Tryz.prog 12 #[.pointer (some ⟨rb,0,none⟩),.string (tx s),.int .i64 k,.int .i64 fuel] w fun e w'=>(e=mtV (matchR s f true k fuel)∧(matchR s f true k fuel).1.length=20)∧Grows w w':=by
 rw [← refs_same]
 obtain ⟨mo,hmo⟩:∃ z,max fuel 0=z:=⟨_,rfl⟩
 rw [hmo]
 obtain ⟨⟨g,b,n⟩,hR⟩:∃ z,allRk s f mo k 0=z:=⟨_,rfl⟩
 rw [hR]
 dsimp only
 obtain ⟨Y,hY⟩:∃ z,(if fuel < (n:Int) then (spZero,false,(100:Int)) else (g,b,0))=z:=⟨_,rfl⟩
 rw [hY]
 have HY:=Lib.hid hY
 have HR:=Lib.hid hR
 clear hY hR
 have hm0:0≤mo:=by omega
 have hm9:mo≤800000:=by omega
 have hz0:(spC spZero).size=20:=by rw [spC_size];rfl
 have hov0:=over_zero
 have hsp0:=span_zero
 have hfi1:=hfi.1
 have hfi2:=hfi.2
 have HA:=Lib.hid hA
 have HRB:=Lib.hid hrb
 have HND:=Lib.hid hnd
 have c3:w.cell? ⟨rb,3,none⟩=some (.bool true):=Blk.cell hrb (by simp) 3
 have irb:InHeap rb w:=Blk.inHeap hrb (by simp)
 clear hA hrb hnd hfi
 go_enter Tryz.func12,Tryz.ntmps12
 go_upto_region 5 with fail
 have HT:=Lib.hid (TwoAt.start w (spC spZero) (spC spZero) 35 35)
 generalize (w.alloc (Obj.cells (spC spZero) 35)).alloc (Obj.cells (spC spZero) 35)=w1 at *
 have hz1:=HT.out.size
 obtain ⟨b8,hb8⟩:∃ z,z=w.heap.size:=⟨_,rfl⟩
 obtain ⟨bN,hbN⟩:∃ z,z=w.heap.size+1:=⟨_,rfl⟩
 have HB8:Hid (blk w1 b8=spC spZero):=Lib.hid (by rw [hb8];exact HT.out.fst)
 have HBN:Hid (blk w1 bN=spC spZero):=Lib.hid (by rw [hbN];exact HT.out.snd)
 have HG1:=Lib.hid HT.out.grows
 have HNE:Hid (w.heap.size≤b8):=Lib.hid (by omega)
 rw [← hbN,← hb8]
 have hcall:=alldoc_any hs hm0 hm9 HND.out hfz A cap rb k x1 x2 (.bool true) w1 (blkG HRB.out (by simp) HG1.out) (HA.out.grows HG1.out) hk
 rw [HR.out] at hcall
 dsimp only at hcall
 have HC:=Lib.hid hcall
 clear HT hz1 hb8 hbN c3 irb hcall HR
 go_wp2_with fail
 (with_reducible refine HC.out.mono ?_)
 rintro e9 w2 ⟨⟨rfl,hl⟩,hg2⟩
 have hszg:(spC g).size=20:=by rw [spC_size];exact hl
 have hov:over (spC spZero) 0 (spC g)=spC g:=over_all (by omega)
 have hspg:span (spC g) 0 20=spC g:=span_all hszg
 have HB82:=Lib.hid (blkG HB8.out (by omega) hg2)
 have HBN2:=Lib.hid (blkG HBN.out (by omega) hg2)
 have HG2:=Lib.hid (HG1.out.trans hg2)
 clear HC hg2 HB8 HBN HG1
 go_upto_region 6 with fail
 have hg3:Grows w2 (w2.alloc (.cells (spC g) 35)):=(Grows.refl _).alloc _
 have hb3:blk (w2.alloc (.cells (spC g) 35)) w2.heap.size=spC g:=blk_alloc_at _ _ _ _ rfl
 obtain ⟨bR,hbR⟩:∃ z,z=w2.heap.size:=⟨_,rfl⟩
 rw [← hbR] at hb3 ⊢
 generalize w2.alloc (.cells (spC g) 35)=w3 at *
 have hb8:=blkG HB82.out (by omega) hg3
 have hbN:=blkG HBN2.out (by omega) hg3
 have HG3:=Lib.hid (HG2.out.trans hg3)
 have i8:InHeap b8 w3:=Blk.inHeap hb8 (by omega)
 have iN:InHeap bN w3:=Blk.inHeap hbN (by omega)
 have iR:InHeap bR w3:=Blk.inHeap hb3 (by omega)
 clear hg3 hbR HB82 HBN2 HG2
 by_cases hn:fuel < (n:Int)
 ·have hYe:Y=(spZero,false,100):=by rw [← HY.out,if_pos hn]
  subst hYe
  have hsame:setBlk w3 b8 (spC spZero)=w3:=Blk.same hb8 (by omega)
  clear HY
  go_wp2_with fail
  exact bodyPost_ret (results_sp4 8 9 10 rfl rfl rfl rfl hb8 hz0) rfl ⟨⟨rfl,rfl⟩,HG3.out⟩
 ·have hYe:Y=(g,b,0):=by rw [← HY.out,if_neg hn]
  subst hYe
  have hF:blk (setBlk w3 b8 (spC g)) b8=spC g:=Blk.get _ hb8 (by omega)
  have HF:=Lib.hid hF
  have HGF:Hid (Grows w (setBlk w3 b8 (spC g))):=Lib.hid (Chg.grows (n:=0) HG3.out (chg_setBlkM (K:=fun x=>x=b8) rfl) fun b e=>by have:=HNE.out;omega)
  have HL:=Lib.hid hl
  clear HY hF
  go_wp2_with fail
  exact bodyPost_ret (results_sp4 8 9 10 rfl rfl rfl rfl HF.out hszg) rfl ⟨rfl,HGF.out⟩
end
end Go.Proofs.YtnjagecmhdagkaaGreatDoor
namespace Go.Proofs.YtnjagecmhdagkaaGreatDoor
open Go.RowKit
set_option maxRecDepth 3000 in
theorem run_equalIn_array_same2 {P:Program} (w:World) (d:Nat) (t e:TypeId) (n z:Nat) (xs:Array Value) (ht:P.underlying t=some (.array n e)) (hs:∀ w,(sizeOf e).run P w=.ok z w)
  (hp:∀ i,i < n→∃ v,∀ w,(part e xs (i*z)).run P w=.ok v w∧(Op.equalIn d e v v).run P w=.ok true w) :
  (Op.equalIn (d+1) t (.agg xs) (.agg xs)).run P w=.ok true w:=by
 simp only [Op.equalIn,Sem.run_bind,run_underlying ht,Result.andThen_ok,hs]
 rw [Std.Legacy.Range.forIn_eq_forIn_range']
 have hl:∀ i ∈ List.range' [:n].start [:n].size [:n].step,i < n:=by
  intro i hi
  simp [List.mem_range',Std.Legacy.Range.size] at hi
  omega
 generalize List.range' [:n].start [:n].size [:n].step=l at hl
 induction l generalizing w with
 | nil=>simp
 | cons i l ih =>
  obtain ⟨v,hv⟩:=hp i (hl i (by simp))
  simp only [List.forIn_cons,Sem.run_bind,(hv _).1,(hv _).2,Result.andThen_ok,Bool.not_true,Bool.false_eq_true,if_false,Sem.run_pure]
  have:=ih w (fun j hj=>hl j (by simp [hj]))
  simpa using this
set_option maxRecDepth 3000 in
theorem eq_two9 (a b c d:Int) (w:World):(Op.equalIn 9999 22 (.agg #[.int .i64 a,.int .i64 b]) (.agg #[.int .i64 c,.int .i64 d])).run Tryz.prog w=.ok (a == c && b == d) w:=by
 have u3:=Tryz.underlying3
 have a3:=Tryz.isAgg3
 have z3:=Tryz.sizeOf3
 have hi:(Tryz.prog.info? 3).isSome=true:=by kernel_rfl
 obtain ⟨i,hi⟩:=Option.isSome_iff_exists.1 hi
 have hc:Tryz.prog.cellsOf 3=1:=by kernel_rfl
 rw [show (9999:Nat)=9998+1 from rfl,run_equalIn_array w 9998 _ _ Tryz.underlying22 hi,hc]
 simp only [show List.range 2=[0,1] from rfl,Op.eqItems]
 go_simp
 by_cases h1:a=c <;> by_cases h2:b=d <;> simp [h1,h2]
set_option maxRecDepth 3000 in
theorem eq_spans (g:Spn) (hg:g.length=20) (w:World):(Op.equalIn 10000 35 (spV g) (spV g)).run Tryz.prog w=.ok true w:=by
 refine run_equalIn_array_same2 w 9999 35 22 10 2 (spC g) Tryz.underlying35 (fun w=>Tryz.sizeOf22 w) fun i hi=>⟨.agg #[.int .i64 (g.getD (i*2) 0),.int .i64 (g.getD (i*2+1) 0)],fun w=>⟨?_,?_⟩⟩
 ·have ex:(spC g).extract (i*2) (i*2+2)=#[.int .i64 (g.getD (i*2) 0),.int .i64 (g.getD (i*2+1) 0)]:=by
   have hs:(spC g).size=20:=by rw [spC_size];exact hg
   apply Array.ext_getElem?
   intro j
   rw [Array.getElem?_extract]
   rcases (show j=0∨j=1∨2≤j by omega) with rfl | rfl | hj
   ·rw [if_pos (by omega),Nat.add_zero,spC_get (by omega)];rfl
   ·rw [if_pos (by omega),spC_get (by omega)];rfl
   ·rw [if_neg (by omega),Array.getElem?_eq_none (by simpa using hj)]
  have h1:=Tryz.isAgg22 w
  have h2:=Tryz.sizeOf22 w
  unfold part
  simp only [Sem.run_bind,h1,h2,Result.andThen_ok,if_true,Sem.run_pure]
  rw [ex]
 ·have:=eq_two9 (g.getD (i*2) 0) (g.getD (i*2+1) 0) (g.getD (i*2) 0) (g.getD (i*2+1) 0) w
  rw [this]
  simp
end Go.Proofs.YtnjagecmhdagkaaGreatDoor
namespace Go.Proofs.YtnjagecmhdagkaaGreatDoor
open Go.RowKit
set_option maxRecDepth 3000 in
theorem heavy_24 (p s:List UInt8) (w:World):Calls Tryz.prog 7 #[.string (tx p),.string (tx s),.int .i64 24] w fun e w'=>HeavyPost p s 24 e∧Grows w w':=heavy_any p s 24 w (by omega)
attribute [local go_sem ↓] ldSp_eq stSp_eq zeroSp
attribute [local go_sem] loadSp loadSp_if storeSp storeSp_if spC_one
set_option maxRecDepth 100000 in
set_option maxHeartbeats 8000000 in
theorem match_refs (p s:List UInt8) (k fu:Int) (w:World) (hw:Sane w) (htz:TzAt w) (hk:I64 k) (hfu:I64 fu) :
  Calls Tryz.prog 4 #[.string (tx p),.string (tx s),.agg #[.int .i64 k,.int .i64 fu]] w fun e w'=>e=.returned (.bool true)∧Grows w w':=by
 have HW:=Lib.hid hw
 have HTZ:=Lib.hid htz
 have HK:=Lib.hid hk
 have HFU:=Lib.hid hfu
 clear hw htz hk hfu
 go_enter Tryz.func4,Tryz.ntmps4
 go_upto_region 1 with fail
 have hg0:Grows w (w.alloc (.cells #[.int .i64 k,.int .i64 fu] 22)):=(Grows.refl _).alloc _
 have hb0:blk (w.alloc (.cells #[.int .i64 k,.int .i64 fu] 22)) w.heap.size=#[.int .i64 k,.int .i64 fu]:=blk_alloc_at _ _ _ _ rfl
 obtain ⟨bX,hbX⟩:∃ z,z=w.heap.size:=⟨_,rfl⟩
 rw [← hbX] at hb0 ⊢
 generalize w.alloc (.cells #[.int .i64 k,.int .i64 fu] 22)=w0 at *
 have HG0:=Lib.hid hg0
 have HB0:=Lib.hid hb0
 have hcall:=heavy_24 p s w0
 clear hg0 hb0 hbX
 go_wp2_with fail
 (with_reducible refine hcall.mono ?_)
 rintro e9 w1 ⟨⟨H,hH,rfl⟩,hg1⟩
 have HG1:=Lib.hid (HG0.out.trans hg1)
 have hb1:=blkG HB0.out (by simp) hg1
 have HB1:=Lib.hid hb1
 have c0:w1.cell? ⟨bX,0,none⟩=some (.int .i64 k):=Blk.cell hb1 (by simp) 0
 have c1:w1.cell? ⟨bX,1,none⟩=some (.int .i64 fu):=Blk.cell hb1 (by simp) 1
 have iX:InHeap bX w1:=Blk.inHeap hb1 (by simp)
 clear hcall hg1 hb1
 cases H with
 | true =>
  go_wp2_with fail
  go_ret
  exact ⟨rfl,HG1.out⟩
 | false =>
 obtain ⟨hp,hs⟩:=hH rfl
 clear hH
 by_cases hf:3000≤fu
 ·have hfb:decide (3000≤fu)=true:=decide_eq_true hf
  go_wp2_with fail
  go_ret
  exact ⟨rfl,HG1.out⟩
 have hfb:decide (3000≤fu)=false:=decide_eq_false hf
 have hdo:∀ W,Grows w W→Calls Tryz.prog 10 #[] W fun e w'=>e=.returned (.bool true)∧Grows W w':=fun W h=>does_any W (HW.out.grows h) (HTZ.out.grows h)
 have HDO:=Lib.hid hdo
 have hcall:=bre_parse p w1 (by omega) (HW.out.grows HG1.out)
 have HF:=Lib.hid hf
 clear hdo hf
 cases hY:patV p with
 | none =>
  rw [hY] at hcall
  have HD:=Lib.hid (doc_none hY)
  clear hY
  go_wp2_with fail
  (with_reducible refine hcall.mono ?_)
  rintro e9 w2 ⟨rfl,hg2⟩
  have hdoc:=refParse_pat p w2 (by omega)
  rw [HD.out] at hdoc
  have HG2:=Lib.hid (HG1.out.trans hg2)
  clear hcall hg2
  go_wp2_with fail
  (with_reducible refine hdoc.mono ?_)
  rintro e9 w3 ⟨rfl,hg3⟩
  have HG3:=Lib.hid (HG2.out.trans hg3)
  clear hdoc hg3
  go_wp2_with fail
  (with_reducible refine (HDO.out _ HG3.out).mono ?_)
  rintro e9 w4 ⟨rfl,hg4⟩
  go_wp2_with fail
  go_ret
  exact ⟨rfl,HG3.out.trans hg4⟩
 | some y =>
  rw [hY] at hcall
  obtain ⟨r,hd,-,-,hdr⟩:=doc_some hY
  have hnd:=patV_nd hY
  obtain ⟨f,t⟩:=y
  dsimp only at hd hdr hnd
  have HD:=Lib.hid hd
  have HDR:=Lib.hid hdr
  have HND:=Lib.hid hnd
  clear hY hd hdr hnd
  go_wp2_with fail
  (with_reducible refine hcall.mono ?_)
  rintro e9 w2 ⟨g,rfl,hre,-,hg2⟩
  have hdoc:=refParse_pat p w2 (by omega)
  rw [HD.out] at hdoc
  have HG2:=Lib.hid (HG1.out.trans hg2)
  have HB2:=Lib.hid (blkG HB1.out (by simp) hg2)
  have HRE:=Lib.hid hre
  clear hcall hg2 hre c0 c1 iX
  go_wp2_with fail
  (with_reducible refine hdoc.mono ?_)
  rintro e9 w3 ⟨g3,A3,cap3,rfl,-,hb3,hA3,hg3⟩
  have HG3:=Lib.hid (HG2.out.trans hg3)
  have HB3:=Lib.hid (blkG HB2.out (by simp) hg3)
  have HRE3:=Lib.hid (HRE.out.grows hg3)
  dsimp only at hb3 hA3
  rw [HDR.out] at hb3
  have HR3:=Lib.hid hb3
  have HA3:=Lib.hid hA3
  have r3:w3.cell? ⟨g3,3,none⟩=some (.bool t.refs):=Blk.cell hb3 (by simp) 3
  have i3:InHeap g3 w3:=Blk.inHeap hb3 (by simp)
  clear hdoc hg3 hb3 hA3
  obtain ⟨rf,hrf⟩:∃ z,t.refs=z:=⟨_,rfl⟩
  rw [hrf] at r3
  have HRF:=Lib.hid hrf
  clear hrf
  cases rf with
  | false =>
   go_wp2_with fail
   (with_reducible refine (HDO.out _ HG3.out).mono ?_)
   rintro e9 w4 ⟨rfl,hg4⟩
   go_wp2_with fail
   go_ret
   exact ⟨rfl,HG3.out.trans hg4⟩
  | true =>
   have hm:=match_any (s:=s) (k:=k) (fuel:=fu) (by omega) f t HND.out.1 (by have:=HND.out.2.2;omega) (fun _=>by have:=HF.out;omega) _ g w3 HRE3.out (HTZ.out.grows HG3.out)
   rw [HRF.out] at hm
   have hr3:=HR3.out
   rw [HRF.out] at hr3
   have HR3b:=Lib.hid hr3
   have hdm:=fun W (hW:Grows w3 W)=>docmatch_any (s:=s) (by omega) (fuel:=fu) (by have:=HF.out;omega) HFU.out HND.out.1 (by have:=HND.out.2.2;omega) A3 cap3 g3 k _ _ W (blkG HR3b.out (by simp) hW) ((HA3.out.mono fun _ _ _=>trivial).grows hW) HK.out
   obtain ⟨⟨G,B,X⟩,hM⟩:∃ z,matchR s f true k fu=z:=⟨_,rfl⟩
   rw [hM] at hm
   simp only [hM] at hdm
   unfold mtV at hm hdm
   dsimp only at hm hdm
   have HDM:=Lib.hid hdm
   have d0:w3.cell? ⟨bX,0,none⟩=some (.int .i64 k):=Blk.cell HB3.out (by simp) 0
   have d1:w3.cell? ⟨bX,1,none⟩=some (.int .i64 fu):=Blk.cell HB3.out (by simp) 1
   have iX:InHeap bX w3:=Blk.inHeap HB3.out (by simp)
   clear hdm hM hr3
   go_wp2_with fail
   (with_reducible refine hm.mono ?_)
   rintro e9 w4 ⟨⟨rfl,hl⟩,hg4⟩
   have hgs:(spC G).size=20:=by rw [spC_size];exact hl
   have hz:(spC spZero).size=20:=by rw [spC_size];rfl
   have hov:over (spC spZero) 0 (spC G)=spC G:=over_all (by omega)
   have hspn:span (spC G) 0 20=spC G:=span_all hgs
   have HL:=Lib.hid hl
   have heq:=eq_spans G hl
   have HEQ:=Lib.hid heq
   clear hm d0 d1 iX r3 i3 heq
   go_upto_region 10 with fail
   have hg5:Grows w3 (w4.alloc (.cells (spC G) 35)):=hg4.alloc _
   have hb5:blk (w4.alloc (.cells (spC G) 35)) w4.heap.size=spC G:=blk_alloc_at _ _ _ _ rfl
   obtain ⟨bA,hbA⟩:∃ z,z=w4.heap.size:=⟨_,rfl⟩
   rw [← hbA] at hb5 ⊢
   generalize w4.alloc (.cells (spC G) 35)=w5 at *
   have d0:w5.cell? ⟨bX,0,none⟩=some (.int .i64 k):=Blk.cell (blkG HB3.out (by simp) hg5) (by simp) 0
   have d1:w5.cell? ⟨bX,1,none⟩=some (.int .i64 fu):=Blk.cell (blkG HB3.out (by simp) hg5) (by simp) 1
   have iX:InHeap bX w5:=World.block_lt_of_cell? _ _ d0
   have hm:=HDM.out w5 hg5
   have HG5:=Lib.hid (HG3.out.trans hg5)
   have HB5:=Lib.hid hb5
   clear hg4 hg5 hbA hb5
   go_wp2_with fail
   (with_reducible refine hm.mono ?_)
   rintro e9 w6 ⟨⟨rfl,-⟩,hg6⟩
   clear hm d0 d1 iX
   go_upto_region 11 with fail
   have hg7:Grows w5 (w6.alloc (.cells (spC G) 35)):=hg6.alloc _
   have hb7:blk (w6.alloc (.cells (spC G) 35)) w6.heap.size=spC G:=blk_alloc_at _ _ _ _ rfl
   obtain ⟨bB,hbB⟩:∃ z,z=w6.heap.size:=⟨_,rfl⟩
   rw [← hbB] at hb7 ⊢
   generalize w6.alloc (.cells (spC G) 35)=w7 at *
   have ha7:=blkG HB5.out (by omega) hg7
   have iA:InHeap bA w7:=Blk.inHeap ha7 (by omega)
   have iB:InHeap bB w7:=Blk.inHeap hb7 (by omega)
   have HG7:=Lib.hid (HG5.out.trans hg7)
   have heq:=HEQ.out
   have hBB:(B == B)=true:=by cases B <;> rfl
   have hXX:(X == X)=true:=by simp
   have hdo:=HDO.out w7 HG7.out
   clear hg6 hg7 hbB
   go_wp2_with fail
   (with_reducible refine hdo.mono ?_)
   rintro e9 w8 ⟨rfl,hg8⟩
   go_wp2_with fail
   go_ret
   exact ⟨rfl,HG7.out.trans hg8⟩
end Go.Proofs.YtnjagecmhdagkaaGreatDoor
