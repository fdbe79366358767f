/-
 Several texts of the proof: MatIs, MatDo.
-/
import Derived.Test.YtnjagecmhdagkaaGreatDoorPk31
set_option linter.unusedSimpArgs false
set_option linter.unusedVariables false
set_option maxRecDepth 3000
/-
  Matches: the laws' own examples (is, does).
-/
namespace Go.Proofs.YtnjagecmhdagkaaGreatDoor
open Go.RowKit
theorem eq_two (a b c d:Int) (w:World):(Op.equalIn 10000 22 (.agg #[.int .i64 a,.int .i64 b]) (.agg #[.int .i64 c,.int .i64 d])).run Tryz.prog w=.ok (a == c && b == d) w:=by
 have u3:=Tryz.underlying3
 have a3:=Tryz.isAgg3
 have z3:=Tryz.sizeOf3
 have hi:(Tryz.prog.info? 3).isSome=true:=by kernel_rfl
 obtain ⟨i,hi⟩:=Option.isSome_iff_exists.1 hi
 have hc:Tryz.prog.cellsOf 3=1:=by kernel_rfl
 rw [show (10000:Nat)=9999+1 from rfl,run_equalIn_array w 9999 _ _ Tryz.underlying22 hi,hc]
 simp only [show List.range 2=[0,1] from rfl,Op.eqItems]
 go_simp
 by_cases h1:a=c <;> by_cases h2:b=d <;> simp [h1,h2]
attribute [local go_sem] eq_two
attribute [local go_sem ↓] ldSp_eq stSp_eq zeroSp bldSp_eq
attribute [local go_sem] loadSp loadSp_if storeSp storeSp_if spC_one bldSp_run
section
variable {p s:List UInt8} {k:Int}
set_option maxRecDepth 100000 in
set_option maxHeartbeats 4000000 in
theorem is_true (p s:List UInt8) (k:Int) (g:Spn) (hp:p.length≤1000000) (hs:s.length≤60000) (w:World) (hw:Sane w) (htz:TzAt w) (hat:atR p s k=(g,true)) (a0 a1 a2 a3 a4 a5:Int)
  (h0:g.getD 0 0=a0) (h1:g.getD 1 0=a1) (h2:g.getD 2 0=a2) (h3:g.getD 3 0=a3) (h4:g.getD 4 0=a4) (h5:g.getD 5 0=a5) :
  Calls Tryz.prog 22 #[.string (tx p),.string (tx s),.int .i64 k,.agg #[.int .i64 a0,.int .i64 a1,.int .i64 a2,.int .i64 a3,.int .i64 a4,.int .i64 a5]] w fun e w'=>e=.returned (.bool true)∧Grows w w':=by
 have hg1:Grows w (w.alloc (.cells #[.int .i64 a0,.int .i64 a1,.int .i64 a2,.int .i64 a3,.int .i64 a4,.int .i64 a5] 64)):=(Grows.refl _).alloc _
 have hb1:blk (w.alloc (.cells #[.int .i64 a0,.int .i64 a1,.int .i64 a2,.int .i64 a3,.int .i64 a4,.int .i64 a5] 64)) w.heap.size=#[.int .i64 a0,.int .i64 a1,.int .i64 a2,.int .i64 a3,.int .i64 a4,.int .i64 a5]:=blk_alloc_at _ _ _ _ rfl
 have hcall:=at_any p s k hp hs _ (hw.grows hg1) (htz.grows hg1)
 rw [hat] at hcall
 obtain ⟨bW,hbW⟩:∃ z,z=w.heap.size:=⟨_,rfl⟩
 rw [← hbW] at hb1
 clear hat hw htz
 go_enter Tryz.func22,Tryz.ntmps22
 go_upto_region 1 with fail
 rw [← hbW]
 clear hbW
 have HB1:=Lib.hid hb1
 have HG1:=Lib.hid hg1
 clear hb1 hg1
 generalize w.alloc (.cells #[.int .i64 a0,.int .i64 a1,.int .i64 a2,.int .i64 a3,.int .i64 a4,.int .i64 a5] 64)=w1 at *
 go_wp2_with fail
 (with_reducible refine hcall.mono ?_)
 rintro e9 w2 ⟨⟨rfl,hl⟩,hg2⟩
 have hg3:Grows w2 (w2.alloc (.cells (spC g) 35)):=(Grows.refl _).alloc _
 have hbG:blk (w2.alloc (.cells (spC g) 35)) w2.heap.size=spC g:=blk_alloc_at _ _ _ _ rfl
 have hbW:=blkG (blkG HB1.out (by simp) hg2) (by simp) hg3
 have hgs:0 < (spC g).size:=by rw [spC_size];omega
 have hgs2:(spC g).size=20:=by rw [spC_size];exact hl
 have hz:(spC spZero).size=20:=by rw [spC_size];rfl
 have hov:over (spC spZero) 0 (spC g)=spC g:=over_all (by omega)
 have hG:=(HG1.out.trans hg2).trans hg3
 have HG:=Lib.hid hG
 clear hcall hG HG1 HB1 hg2 hg3
 go_upto_region 2 with fail
 obtain ⟨bG,hbGe⟩:∃ z,z=w2.heap.size:=⟨_,rfl⟩
 rw [← hbGe] at hbG ⊢
 clear hbGe
 generalize w2.alloc (.cells (spC g) 35)=w3 at *
 have c0:=(Blk.cell hbG hgs 0).trans (spC_get (by omega))
 have c1:=(Blk.cell hbG hgs 1).trans (spC_get (by omega))
 have c2:=(Blk.cell hbG hgs 2).trans (spC_get (by omega))
 have c3:=(Blk.cell hbG hgs 3).trans (spC_get (by omega))
 have c4:=(Blk.cell hbG hgs 4).trans (spC_get (by omega))
 have c5:=(Blk.cell hbG hgs 5).trans (spC_get (by omega))
 rw [h0] at c0
 rw [h1] at c1
 rw [h2] at c2
 rw [h3] at c3
 rw [h4] at c4
 rw [h5] at c5
 have d0:w3.cell? ⟨bW,0,none⟩=some (.int .i64 a0):=Blk.cell hbW (by simp) 0
 have d1:w3.cell? ⟨bW,1,none⟩=some (.int .i64 a1):=Blk.cell hbW (by simp) 1
 have d2:w3.cell? ⟨bW,2,none⟩=some (.int .i64 a2):=Blk.cell hbW (by simp) 2
 have d3:w3.cell? ⟨bW,3,none⟩=some (.int .i64 a3):=Blk.cell hbW (by simp) 3
 have d4:w3.cell? ⟨bW,4,none⟩=some (.int .i64 a4):=Blk.cell hbW (by simp) 4
 have d5:w3.cell? ⟨bW,5,none⟩=some (.int .i64 a5):=Blk.cell hbW (by simp) 5
 have iG:InHeap bG w3:=Blk.inHeap hbG hgs
 have iW:InHeap bW w3:=Blk.inHeap hbW (by simp)
 clear hbG hbW h0 h1 h2 h3 h4 h5 hov hz hgs2 hgs
 go_wp2_with fail
 go_ret
 exact ⟨rfl,HG.out⟩
end
end Go.Proofs.YtnjagecmhdagkaaGreatDoor
namespace Go.Proofs.YtnjagecmhdagkaaGreatDoor
open Go.RowKit
theorem dat1:(atR [94,97] [98,97] 0).2=false:=by kernel_rfl
theorem dat2_0:(atR [98,42] [97,98,98,98] 1).1.getD 0 0=1:=by kernel_rfl
theorem dat2_1:(atR [98,42] [97,98,98,98] 1).1.getD 1 0=4:=by kernel_rfl
theorem dat2_2:(atR [98,42] [97,98,98,98] 1).1.getD 2 0=-1:=by kernel_rfl
theorem dat2_3:(atR [98,42] [97,98,98,98] 1).1.getD 3 0=-1:=by kernel_rfl
theorem dat2_4:(atR [98,42] [97,98,98,98] 1).1.getD 4 0=-1:=by kernel_rfl
theorem dat2_5:(atR [98,42] [97,98,98,98] 1).1.getD 5 0=-1:=by kernel_rfl
theorem dat2_b:(atR [98,42] [97,98,98,98] 1).2=true:=by kernel_rfl
theorem dat3_0:(atR [92,40,97,42,92,41,92,40,97,98,92,41,42,98,42] [97,98,98] 0).1.getD 0 0=0:=by kernel_rfl
theorem dat3_1:(atR [92,40,97,42,92,41,92,40,97,98,92,41,42,98,42] [97,98,98] 0).1.getD 1 0=3:=by kernel_rfl
theorem dat3_2:(atR [92,40,97,42,92,41,92,40,97,98,92,41,42,98,42] [97,98,98] 0).1.getD 2 0=0:=by kernel_rfl
theorem dat3_3:(atR [92,40,97,42,92,41,92,40,97,98,92,41,42,98,42] [97,98,98] 0).1.getD 3 0=1:=by kernel_rfl
theorem dat3_4:(atR [92,40,97,42,92,41,92,40,97,98,92,41,42,98,42] [97,98,98] 0).1.getD 4 0=-1:=by kernel_rfl
theorem dat3_5:(atR [92,40,97,42,92,41,92,40,97,98,92,41,42,98,42] [97,98,98] 0).1.getD 5 0=-1:=by kernel_rfl
theorem dat3_b:(atR [92,40,97,42,92,41,92,40,97,98,92,41,42,98,42] [97,98,98] 0).2=true:=by kernel_rfl
theorem dat4_0:(atR [92,40,92,40,97,92,41,42,98,92,41,42] [97,98,98] 0).1.getD 0 0=0:=by kernel_rfl
theorem dat4_1:(atR [92,40,92,40,97,92,41,42,98,92,41,42] [97,98,98] 0).1.getD 1 0=3:=by kernel_rfl
theorem dat4_2:(atR [92,40,92,40,97,92,41,42,98,92,41,42] [97,98,98] 0).1.getD 2 0=2:=by kernel_rfl
theorem dat4_3:(atR [92,40,92,40,97,92,41,42,98,92,41,42] [97,98,98] 0).1.getD 3 0=3:=by kernel_rfl
theorem dat4_4:(atR [92,40,92,40,97,92,41,42,98,92,41,42] [97,98,98] 0).1.getD 4 0=-1:=by kernel_rfl
theorem dat4_5:(atR [92,40,92,40,97,92,41,42,98,92,41,42] [97,98,98] 0).1.getD 5 0=-1:=by kernel_rfl
theorem dat4_b:(atR [92,40,92,40,97,92,41,42,98,92,41,42] [97,98,98] 0).2=true:=by kernel_rfl
theorem dat5_0:(atR [92,40,46,42,92,41,92,49] [97,98,97,98] 0).1.getD 0 0=0:=by kernel_rfl
theorem dat5_1:(atR [92,40,46,42,92,41,92,49] [97,98,97,98] 0).1.getD 1 0=4:=by kernel_rfl
theorem dat5_2:(atR [92,40,46,42,92,41,92,49] [97,98,97,98] 0).1.getD 2 0=0:=by kernel_rfl
theorem dat5_3:(atR [92,40,46,42,92,41,92,49] [97,98,97,98] 0).1.getD 3 0=2:=by kernel_rfl
theorem dat5_4:(atR [92,40,46,42,92,41,92,49] [97,98,97,98] 0).1.getD 4 0=-1:=by kernel_rfl
theorem dat5_5:(atR [92,40,46,42,92,41,92,49] [97,98,97,98] 0).1.getD 5 0=-1:=by kernel_rfl
theorem dat5_b:(atR [92,40,46,42,92,41,92,49] [97,98,97,98] 0).2=true:=by kernel_rfl
theorem is_lit (a b:Array UInt8) (k:Int) (hp:a.toList.length≤1000000) (hs:b.toList.length≤60000) (w:World) (hw:Sane w) (htz:TzAt w) (hat:(atR a.toList b.toList k).2=true) (a0 a1 a2 a3 a4 a5:Int)
  (h0:(atR a.toList b.toList k).1.getD 0 0=a0) (h1:(atR a.toList b.toList k).1.getD 1 0=a1) (h2:(atR a.toList b.toList k).1.getD 2 0=a2) (h3:(atR a.toList b.toList k).1.getD 3 0=a3) (h4:(atR a.toList b.toList k).1.getD 4 0=a4) (h5:(atR a.toList b.toList k).1.getD 5 0=a5) :
  Calls Tryz.prog 22 #[.string ⟨a⟩,.string ⟨b⟩,.int .i64 k,.agg #[.int .i64 a0,.int .i64 a1,.int .i64 a2,.int .i64 a3,.int .i64 a4,.int .i64 a5]] w fun e w'=>e=.returned (.bool true)∧Grows w w' :=
 is_true a.toList b.toList k _ hp hs w hw htz (Prod.ext rfl hat) a0 a1 a2 a3 a4 a5 h0 h1 h2 h3 h4 h5
theorem at_lit (a b:Array UInt8) (k:Int) (hp:a.toList.length≤1000000) (hs:b.toList.length≤60000) (w:World) (hw:Sane w) (htz:TzAt w) :
  Calls Tryz.prog 21 #[.string ⟨a⟩,.string ⟨b⟩,.int .i64 k] w fun e w'=>(e=.returned (.tuple #[spV (atR a.toList b.toList k).1,.bool (atR a.toList b.toList k).2])∧(atR a.toList b.toList k).1.length=20)∧Grows w w' :=
 at_any a.toList b.toList k hp hs w hw htz
attribute [local go_sem ↓] ldSp_eq stSp_eq zeroSp bldSp_eq
attribute [local go_sem] loadSp loadSp_if storeSp storeSp_if spC_one bldSp_run
section
set_option maxRecDepth 100000 in
set_option maxHeartbeats 4000000 in
theorem does_any (w:World) (hw:Sane w) (htz:TzAt w):Calls Tryz.prog 10 #[] w fun e w'=>e=.returned (.bool true)∧Grows w w':=by
 have hg1:Grows w (w.alloc (.cells #[.int .i64 (-1),.int .i64 (-1)] 22)):=(Grows.refl _).alloc _
 have hb1:blk (w.alloc (.cells #[.int .i64 (-1),.int .i64 (-1)] 22)) w.heap.size=#[.int .i64 (-1),.int .i64 (-1)]:=blk_alloc_at _ _ _ _ rfl
 obtain ⟨bN,hbN⟩:∃ z,z=w.heap.size:=⟨_,rfl⟩
 rw [← hbN] at hb1
 go_enter Tryz.func10,Tryz.ntmps10
 go_upto_region 2 with fail
 rw [← hbN]
 clear hbN
 have HW:=Lib.hid hw
 have HTZ:=Lib.hid htz
 have HB1:=Lib.hid hb1
 have HG1:=Lib.hid hg1
 clear hb1 hg1 hw htz
 generalize w.alloc (.cells #[.int .i64 (-1),.int .i64 (-1)] 22)=w1 at *
 have hcall:=at_lit #[94,97] #[98,97] 0 (by decide) (by decide) w1 (HW.out.grows HG1.out) (HTZ.out.grows HG1.out)
 rw [show (atR #[(94:UInt8),97].toList #[(98:UInt8),97].toList 0).2=false from dat1] at hcall
 obtain ⟨g0,hg0⟩:∃ g,(atR #[(94:UInt8),97].toList #[(98:UInt8),97].toList 0).1=g:=⟨_,rfl⟩
 rw [hg0] at hcall
 clear hg0
 go_wp2_with fail
 (with_reducible refine hcall.mono ?_)
 rintro e9 w2 ⟨⟨rfl,hl⟩,hg2⟩
 have hgs2:(spC g0).size=20:=by rw [spC_size];exact hl
 have hz:(spC spZero).size=20:=by rw [spC_size];rfl
 have hov:over (spC spZero) 0 (spC g0)=spC g0:=over_all (by omega)
 have hg3:Grows w2 (w2.alloc (.cells (spC g0) 35)):=(Grows.refl _).alloc _
 have hb3:=blkG (blkG HB1.out (by simp) hg2) (by simp) hg3
 have HB3:=Lib.hid hb3
 have HG3:=Lib.hid ((HG1.out.trans hg2).trans hg3)
 clear hcall hg2 hg3 hb3 HB1 HG1
 go_upto_region 3 with fail
 clear hov hz hgs2
 generalize w2.alloc (.cells (spC g0) 35)=w3 at *
 have c0:w3.cell? ⟨bN,0,none⟩=some (.int .i64 (-1)):=Blk.cell HB3.out (by simp) 0
 have c1:w3.cell? ⟨bN,1,none⟩=some (.int .i64 (-1)):=Blk.cell HB3.out (by simp) 1
 have iN:InHeap bN w3:=Blk.inHeap HB3.out (by simp)
 have hc1:=is_lit #[98,42] #[97,98,98,98] 1 (by decide) (by decide) w3 (HW.out.grows HG3.out) (HTZ.out.grows HG3.out) dat2_b _ _ _ _ _ _ dat2_0 dat2_1 dat2_2 dat2_3 dat2_4 dat2_5
 go_wp2_with fail
 (with_reducible refine hc1.mono ?_)
 rintro e9 w4 ⟨rfl,hg4⟩
 have HB4:=Lib.hid (blkG HB3.out (by simp) hg4)
 have HG4:=Lib.hid (HG3.out.trans hg4)
 clear hc1 hg4 c0 c1 iN HB3 HG3
 have c0:w4.cell? ⟨bN,0,none⟩=some (.int .i64 (-1)):=Blk.cell HB4.out (by simp) 0
 have c1:w4.cell? ⟨bN,1,none⟩=some (.int .i64 (-1)):=Blk.cell HB4.out (by simp) 1
 have iN:InHeap bN w4:=Blk.inHeap HB4.out (by simp)
 have hc1:=is_lit #[92,40,97,42,92,41,92,40,97,98,92,41,42,98,42] #[97,98,98] 0 (by decide) (by decide) w4 (HW.out.grows HG4.out) (HTZ.out.grows HG4.out) dat3_b _ _ _ _ _ _ dat3_0 dat3_1 dat3_2 dat3_3 dat3_4 dat3_5
 go_wp2_with fail
 (with_reducible refine hc1.mono ?_)
 rintro e9 w5 ⟨rfl,hg5⟩
 have HB5:=Lib.hid (blkG HB4.out (by simp) hg5)
 have HG5:=Lib.hid (HG4.out.trans hg5)
 clear hc1 hg5 c0 c1 iN HB4 HG4
 have c0:w5.cell? ⟨bN,0,none⟩=some (.int .i64 (-1)):=Blk.cell HB5.out (by simp) 0
 have c1:w5.cell? ⟨bN,1,none⟩=some (.int .i64 (-1)):=Blk.cell HB5.out (by simp) 1
 have iN:InHeap bN w5:=Blk.inHeap HB5.out (by simp)
 have hc1:=is_lit #[92,40,92,40,97,92,41,42,98,92,41,42] #[97,98,98] 0 (by decide) (by decide) w5 (HW.out.grows HG5.out) (HTZ.out.grows HG5.out) dat4_b _ _ _ _ _ _ dat4_0 dat4_1 dat4_2 dat4_3 dat4_4 dat4_5
 go_wp2_with fail
 (with_reducible refine hc1.mono ?_)
 rintro e9 w6 ⟨rfl,hg6⟩
 have HB6:=Lib.hid (blkG HB5.out (by simp) hg6)
 have HG6:=Lib.hid (HG5.out.trans hg6)
 clear hc1 hg6 c0 c1 iN HB5 HG5
 have c0:w6.cell? ⟨bN,0,none⟩=some (.int .i64 (-1)):=Blk.cell HB6.out (by simp) 0
 have c1:w6.cell? ⟨bN,1,none⟩=some (.int .i64 (-1)):=Blk.cell HB6.out (by simp) 1
 have iN:InHeap bN w6:=Blk.inHeap HB6.out (by simp)
 have hc1:=is_lit #[92,40,46,42,92,41,92,49] #[97,98,97,98] 0 (by decide) (by decide) w6 (HW.out.grows HG6.out) (HTZ.out.grows HG6.out) dat5_b _ _ _ _ _ _ dat5_0 dat5_1 dat5_2 dat5_3 dat5_4 dat5_5
 go_wp2_with fail
 (with_reducible refine hc1.mono ?_)
 rintro e9 w7 ⟨rfl,hg7⟩
 have HG7:=Lib.hid (HG6.out.trans hg7)
 clear hc1 hg7 c0 c1 iN HB6 HG6
 go_wp2_with fail
 go_ret
 exact ⟨rfl,HG7.out⟩
end
end Go.Proofs.YtnjagecmhdagkaaGreatDoor
