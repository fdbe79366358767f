/-
 Several texts of the proof: MatDf, MatDw, MatDg.
-/
import Derived.Test.YtnjagecmhdagkaaGreatDoorPk26
import Derived.Deep.CutBlock
import Derived.Test.YtnjagecmhdagkaaGreatDoorPk47
import Derived.Test.YtnjagecmhdagkaaGreatDoorPk31
set_option linter.unusedSimpArgs false
set_option linter.unusedVariables false
set_option maxRecDepth 3000
/-
  Matches, the document's way by all ways: which of two rows of ways is the better one, walked.
-/
namespace Go.Proofs.YtnjagecmhdagkaaGreatDoor
open Go.RowKit
def BetD (a:Wy):Prop:=∀ (b:Wy) (ok:Nat→Prop) (A:Option Addr) (ca:Nat) (B:Option Addr) (cb:Nat) (w:World),WyAt ok w A ca a→WyAt ok w B cb b→WySm a→WySm b →
 Calls Tryz.prog 32 #[.slice A a.len ca,.slice B b.len cb] w fun e w'=>e=.returned (.int .i64 (betterV a b))∧Grows w w'
set_option maxRecDepth 100000 in
set_option maxHeartbeats 4000000 in
theorem betterD_of (a:Wy) (hK:AllWy BetD a):BetD a:=by
 intro b ok A ca B cb w hA hB hsa hsb
 obtain ⟨xs,hxs,hxr⟩:=hA
 obtain ⟨ys,hys,hyr⟩:=hB
 obtain ⟨R,hR⟩:∃ R,betterV a b=R:=⟨_,rfl⟩
 rw [hR]
 have HR:=Lib.hid hR
 have hal:a.len≤9223372036854775807:=by have:=hxs.le;have:=hxs.cap63;omega
 have hbl:b.len≤9223372036854775807:=by have:=hys.le;have:=hys.cap63;omega
 obtain ⟨M,hM⟩:∃ M,min a.len b.len=M:=⟨_,rfl⟩
 have HXS:=Lib.hid hxs
 have HYS:=Lib.hid hys
 have HM:=Lib.hid hM
 have HA0:=Lib.hid (WySuf.start hxr)
 have HB0:=Lib.hid (WySuf.start hyr)
 have HSA:=Lib.hid hsa
 have HSB:=Lib.hid hsb
 have HK:=Lib.hid hK
 have hMl:M≤9223372036854775807:=by omega
 clear hR hxs hys hM hxr hyr hsa hsb hK
 go_enter Tryz.func32,Tryz.ntmps32
 go_wp2_with fail
 go_loopg [5] M (fun q v5 wr=>∃ (i:Nat) (a1 b1:Wy),q+i=M∧v5=.int .i64 i∧WySuf ok w a xs i a1∧WySuf ok w b ys i b1∧WySm a1∧WySm b1∧longsV a b=longsV a1 b1∧Grows w wr)
 case atStart=>exact ⟨0,a,b,by omega,rfl,HA0.out,HB0.out,HSA.out,HSB.out,rfl,Grows.refl _⟩
 case round =>
  obtain ⟨i,a1,b1,hq,rfl,hS1,hS2,hm1,hm2,hL,hg⟩:=hrel
  have HS:=Lib.hid (And.intro hS1 hS2)
  have HM9:=Lib.hid (And.intro hm1 hm2)
  have HL:=Lib.hid hL
  have HG:=Lib.hid hg
  have HQ:=Lib.hid hq
  clear hS1 hS2 hm1 hm2 hL hg hq
  obtain ⟨wi,hwi⟩:∃ z,z=wr:=⟨_,rfl⟩
  subst hwi
  go_upto_region 2 with fail
  go_cut [17] (fun v17 wx=>v17=.bool (decide (i < M))∧Grows wi wx)
  case first =>
   by_cases h1:i < a.len
   ·have h1i:(i:Int) < (a.len:Int):=by omega
    by_cases h2:i < b.len
    ·have h2i:(i:Int) < (b.len:Int):=by omega
     have hB:=Lib.hid (decide_eq_true (show i < M by have:=HM.out;omega))
     go_wp2_with fail
     go_meet
     exact ⟨by rw [hB.out],Grows.refl _⟩
    ·have h2b:decide (i < b.len)=false:=decide_eq_false h2
     have hB:=Lib.hid (decide_eq_false (show ¬ i < M by have:=HM.out;omega))
     clear h2
     go_wp2_with fail
     go_meet
     exact ⟨by rw [hB.out],Grows.refl _⟩
   ·have h1b:decide (i < a.len)=false:=decide_eq_false h1
    have hB:=Lib.hid (decide_eq_false (show ¬ i < M by have:=HM.out;omega))
    clear h1
    go_wp2_with fail
    go_meet
    exact ⟨by rw [hB.out],Grows.refl _⟩
  case rest =>
  obtain ⟨rfl,hg17⟩:=hcut
  have HGA:=Lib.hid (HG.out.trans hg17)
  clear hg17 HG
  obtain ⟨wj,hwj⟩:∃ z,z=wc:=⟨_,rfl⟩
  subst hwj
  by_cases hi:i < M
  ·cases a1 with
   | nil=>have h5:=HS.out.1.len;have h6:=HM.out;simp only [Wy.len] at h5;omega
   | cons l k r =>
   cases b1 with
   | nil=>have h5:=HS.out.2.len;have h6:=HM.out;simp only [Wy.len] at h5;omega
   | cons l2 k2 r2 =>
   obtain ⟨hN1,hx0,-⟩:=HS.out.1.next
   obtain ⟨hN2,hy0,-⟩:=HS.out.2.next
   obtain ⟨b1,o1,e1,hin1,hc1⟩:=HXS.out.rd.2 (by have:=HM.out;omega)
   obtain ⟨b2,o2,e2,hin2,hc2⟩:=HYS.out.rd.2 (by have:=HM.out;omega)
   subst e1 e2
   have d1:=cellG (hc1 _ _ hx0) HGA.out
   have d2:=cellG (hc2 _ _ hy0) HGA.out
   rw [Nat.mul_comm 2 i] at d1 d2
   have j1:InHeap b1 wj:=World.block_lt_of_cell? _ _ d1
   have j2:InHeap b2 wj:=World.block_lt_of_cell? _ _ d2
   have hia:i < a.len:=by have:=HM.out;omega
   have hib:i < b.len:=by have:=HM.out;omega
   have hiai:(i:Int) < a.len:=by omega
   have hibi:(i:Int) < b.len:=by omega
   obtain ⟨D,hD⟩:∃ D,(l:Int) - l2=D:=⟨_,rfl⟩
   have hl1:=HM9.out.1.1
   have hl2:=HM9.out.2.1
   have hDs:-100000≤D∧D≤100000:=by omega
   have HN1:=Lib.hid hN1
   have HN2:=Lib.hid hN2
   have HDD:=Lib.hid (And.intro d1 d2)
   have HD:=Lib.hid hD
   have hib8:decide (i < M)=true:=decide_eq_true hi
   clear hN1 hN2 hx0 hy0 hc1 hc2
   by_cases hD0:l=l2
   ·have hDb:((l:Int) != (l2:Int))=false:=by rw [hD0];exact bne_self_eq_false _
    have HDE:=Lib.hid hD0
    clear hD0
    go_upto_region 4 with fail
    go_quiet (fail)
    go_wp2_with fail
    go_roundg (gk - 1)
    case measure=>have:=HQ.out;omega
    case rel=>exact ⟨i+1,r,r2,by have:=HQ.out;omega,by simp,HN1.out,HN2.out,HM9.out.1.2.2,HM9.out.2.2.2,by rw [HL.out,longsV,if_neg (by have:=HDE.out;omega)],HGA.out.trans (by repeat' first | exact Grows.refl _ | refine Grows.drewN ?_ _ | refine Grows.drew ?_)⟩
   ·have hDb:((l:Int) != (l2:Int))=true:=by rw [bne_iff_ne];omega
    have hRD:R=D:=by
     have h1:=HL.out
     rw [longsV,if_pos (by omega),HD.out] at h1
     rw [← HR.out]
     unfold betterV
     rw [h1,if_pos (by have:=HD.out;omega)]
    subst hRD
    clear HR HL hD0
    go_upto_region 4 with fail
    go_cut [30] (fun v30 wx=>v30=.bool true∧Grows wj wx)
    case first =>
     go_quiet (fail)
     go_wp2_with fail
     go_meet
     exact ⟨rfl,by repeat' first | exact Grows.refl _ | refine Grows.drewN ?_ _ | refine Grows.drew ?_⟩
    case rest =>
    obtain ⟨rfl,hg30⟩:=hcut
    clear d1 d2 j1 j2
    have d1:=cellG HDD.out.1 hg30
    have d2:=cellG HDD.out.2 hg30
    have j1:InHeap b1 wc:=World.block_lt_of_cell? _ _ d1
    have j2:InHeap b2 wc:=World.block_lt_of_cell? _ _ d2
    have HG30:=Lib.hid hg30
    clear hg30
    go_upto_region 5 with fail
    go_quiet (fail)
    go_wp2_with fail
    go_ret
    exact ⟨rfl,(HGA.out.trans HG30.out).trans (by repeat' first | exact Grows.refl _ | refine Grows.drewN ?_ _ | refine Grows.drew ?_)⟩
  ·have hlb:decide (i < M)=false:=decide_eq_false hi
   have hL0:longsV a b=0:=by
    rw [HL.out]
    have h5:=HS.out.1.len
    have h6:=HS.out.2.len
    have h7:=HM.out
    cases a1 with
    | nil=>simp [longsV]
    | cons l k r =>
     cases b1 with
     | nil=>simp [longsV]
     | cons l2 k2 r2=>simp only [Wy.len] at h5 h6;omega
   have hR2:withB a b=R:=by
    rw [← HR.out]
    unfold betterV
    rw [hL0,if_neg (by simp)]
   have HR2:=Lib.hid hR2
   clear hL0 hR2 HR HS HM9 HL
   go_wp2_with fail
   obtain ⟨w1,hw1⟩:∃ z,z=wj:=⟨_,rfl⟩
   subst hw1
   go_loopg [6] M (fun q v6 wr=>∃ (i:Nat) (a1 b1:Wy),q+i=M∧v6=.int .i64 i∧WySuf ok w a xs i a1∧WySuf ok w b ys i b1∧WySm a1∧WySm b1∧AllWy BetD a1∧withB a1 b1=R∧Grows w wr)
   case atStart=>exact ⟨0,a,b,by omega,rfl,HA0.out,HB0.out,HSA.out,HSB.out,HK.out,HR2.out,HGA.out⟩
   case round =>
    obtain ⟨i,a1,b1,hq,rfl,hS1,hS2,hm1,hm2,hk1,hL,hg⟩:=hrel
    have HS:=Lib.hid (And.intro hS1 hS2)
    have HM9:=Lib.hid (And.intro hm1 (And.intro hm2 hk1))
    have HL:=Lib.hid hL
    have HG:=Lib.hid hg
    have HQ:=Lib.hid hq
    clear hS1 hS2 hm1 hm2 hk1 hL hg hq
    obtain ⟨wi,hwi⟩:∃ z,z=wr:=⟨_,rfl⟩
    subst hwi
    go_upto_region 7 with fail
    go_cut [51] (fun v51 wx=>v51=.bool (decide (i < M))∧Grows wi wx)
    case first =>
     by_cases h1:i < a.len
     ·have h1i:(i:Int) < (a.len:Int):=by omega
      by_cases h2:i < b.len
      ·have h2i:(i:Int) < (b.len:Int):=by omega
       have hB:=Lib.hid (decide_eq_true (show i < M by have:=HM.out;omega))
       go_wp2_with fail
       go_meet
       exact ⟨by rw [hB.out],Grows.refl _⟩
      ·have h2b:decide (i < b.len)=false:=decide_eq_false h2
       have hB:=Lib.hid (decide_eq_false (show ¬ i < M by have:=HM.out;omega))
       clear h2
       go_wp2_with fail
       go_meet
       exact ⟨by rw [hB.out],Grows.refl _⟩
     ·have h1b:decide (i < a.len)=false:=decide_eq_false h1
      have hB:=Lib.hid (decide_eq_false (show ¬ i < M by have:=HM.out;omega))
      clear h1
      go_wp2_with fail
      go_meet
      exact ⟨by rw [hB.out],Grows.refl _⟩
    case rest =>
    obtain ⟨rfl,hg51⟩:=hcut
    have HGB:=Lib.hid (HG.out.trans hg51)
    clear hg51 HG
    obtain ⟨wj,hwj⟩:∃ z,z=wc:=⟨_,rfl⟩
    subst hwj
    by_cases hi:i < M
    ·cases a1 with
     | nil=>have h5:=HS.out.1.len;have h6:=HM.out;simp only [Wy.len] at h5;omega
     | cons l k r =>
     cases b1 with
     | nil=>have h5:=HS.out.2.len;have h6:=HM.out;simp only [Wy.len] at h5;omega
     | cons l2 k2 r2 =>
     obtain ⟨hN1,-,A1,c1,hx0,hA1⟩:=HS.out.1.next
     obtain ⟨hN2,-,A2,c2,hy0,hA2⟩:=HS.out.2.next
     obtain ⟨b1,o1,e1,hin1,hc1⟩:=HXS.out.rd.2 (by have:=HM.out;omega)
     obtain ⟨b2,o2,e2,hin2,hc2⟩:=HYS.out.rd.2 (by have:=HM.out;omega)
     subst e1 e2
     have d1:=cellG (hc1 _ _ hx0) HGB.out
     have d2:=cellG (hc2 _ _ hy0) HGB.out
     rw [Nat.mul_comm 2 i,← Nat.add_assoc] at d1 d2
     have j1:InHeap b1 wj:=World.block_lt_of_cell? _ _ d1
     have j2:InHeap b2 wj:=World.block_lt_of_cell? _ _ d2
     have hcall:∀ mm:More,Calls Tryz.prog 32 #[.slice A1 k.len c1,.slice A2 k2.len c2] (more wj mm) fun e w'=>e=.returned (.int .i64 (betterV k k2))∧Grows (more wj mm) w':=fun mm=>HM9.out.2.2.1 k2 ok A1 c1 A2 c2 (more wj mm) (hA1.grows (HGB.out.trans ⟨mm,rfl⟩)) (hA2.grows (HGB.out.trans ⟨mm,rfl⟩)) HM9.out.1.2.1 HM9.out.2.1.2.1
     have hia:i < a.len:=by have:=HM.out;omega
     have hib:i < b.len:=by have:=HM.out;omega
     have hiai:(i:Int) < a.len:=by omega
     have hibi:(i:Int) < b.len:=by omega
     have HN1:=Lib.hid hN1
     have HN2:=Lib.hid hN2
     have hL:=HL.out
     rw [withB_cons] at hL
     obtain ⟨D,hD⟩:∃ D,betterV k k2=D:=⟨_,rfl⟩
     rw [hD] at hL hcall
     have HL2:=Lib.hid hL
     have hib8:decide (i < M)=true:=decide_eq_true hi
     clear hL hN1 hN2 hx0 hy0 hc1 hc2 hA1 hA2 hD HL
     go_upto_region 9 with fail
     refine region_grows (by kernel_rfl) (by kernel_rfl) ?_
     repeat (go_big_quiet_step ((go_at_call 32;exact calls_grows (hcall _))))
     refine wpQuiet_nil ?_
     intro _ hw'
     obtain ⟨m1,rfl⟩:=hw'
     have HG3:=Lib.hid (HGB.out.trans ⟨m1,rfl⟩:Grows w (more wj m1))
     clear hcall d1 d2 j1 j2
     generalize more wj m1=w3 at *
     by_cases hD0:D=0
     ·have hDb:(D != 0)=false:=by simp [hD0]
      have hL2:withB r r2=R:=by have:=HL2.out;rw [if_neg (by simp [hD0])] at this;exact this
      have HL3:=Lib.hid hL2
      clear hD0 HL2 hL2
      go_wp2_with fail
      go_roundg (gk - 1)
      case measure=>have:=HQ.out;omega
      case rel=>exact ⟨i+1,r,r2,by have:=HQ.out;omega,by simp,HN1.out,HN2.out,HM9.out.1.2.2,HM9.out.2.1.2.2,HM9.out.2.2.2,HL3.out,HG3.out⟩
     ·have hDb:(D != 0)=true:=by simp [hD0]
      have hRD:R=D:=by have:=HL2.out;rw [if_pos hD0] at this;exact this.symm
      subst hRD
      clear HL2 HR2
      go_wp2_with fail
      go_ret
      exact ⟨rfl,HG3.out⟩
    ·have hlb:decide (i < M)=false:=decide_eq_false hi
     have hR0:R=0:=by
      rw [← HL.out]
      have h5:=HS.out.1.len
      have h6:=HS.out.2.len
      have h7:=HM.out
      cases a1 with
      | nil=>simp [withB]
      | cons l k r =>
       cases b1 with
       | nil=>simp [withB]
       | cons l2 k2 r2=>simp only [Wy.len] at h5 h6;omega
     subst hR0
     clear HS HM9 HL HR2
     go_wp2_with fail
     go_ret
     exact ⟨rfl,HGB.out⟩
theorem betterD_any (a:Wy):BetD a:=(allWy_of betterD_of a).1
end Go.Proofs.YtnjagecmhdagkaaGreatDoor
namespace Go.Proofs.YtnjagecmhdagkaaGreatDoor
open Go.RowKit
theorem row_anyD {s:List UInt8} {most:Int} {sb B:Nat} (hs:s.length≤60000) (hB:∀ n,ovN most n=false→n+1≤B) (hB9:B≤900000):∀ f:Fr,AllNd f→f.size≤1000→RowD s most sb B f:=by
 intro f
 induction f with
 | nil=>intro _ _;exact row_nilD
 | cons x k r ihk ihr =>
  intro hnd hsz
  have h1:k.size≤1000:=by simp only [Fr.size] at hsz;omega
  have h2:r.size≤1000:=by simp only [Fr.size] at hsz;omega
  exact row_consD hs hB hB9 hnd hsz (node_anyD hs hB hB9 hnd.1 hnd.2.1 h1 (ihk hnd.2.1 h1)) (ihr hnd.2.2 h2)
end Go.Proofs.YtnjagecmhdagkaaGreatDoor
namespace Go.Proofs.YtnjagecmhdagkaaGreatDoor
open Go.RowKit
theorem rowSt:RowOf Tryz.prog 87 22:=⟨_,Tryz.underlying87,rfl,by kernel_rfl⟩
theorem zeroSt (w:World):(zeroValue 87).run Tryz.prog w=.ok (.agg (stC 0 spZero (.slice none 0 0))) w:=by kernel_rfl
section
variable (w:World) (g o:Nat) (c:Array Value)
def ldSt (x:Value):Sem Value:=Instr.loadAt 87 x
theorem ldSt_eq (x:Value):Instr.loadAt 87 x=ldSt x:=rfl
theorem loadSt:(ldSt (.pointer (some ⟨g,o,none⟩))).run Tryz.prog w=loadPart Tryz.prog w 87 g o 22:=rfl
def stSt (x v:Value):Sem Unit:=Instr.storeAt 87 x v
theorem stSt_eq (x v:Value):Instr.storeAt 87 x v=stSt x v:=rfl
theorem storeSt:(stSt (.pointer (some ⟨g,o,none⟩)) (.agg c)).run Tryz.prog w=storePart Tryz.prog w 87 g o c:=rfl
theorem storeSt_if (h:OneCells c):storePart Tryz.prog w 87 g o c=if 0 < 22∧o+22≤(blk w g).size∧c.size=22 then .ok () (setBlk w g (over (blk w g) o c)) else storePartOdd Tryz.prog w 87 g o c:=storePart_if w _ g o 22 c rowSt h
end
theorem st_load {w:World} {b o:Nat} {t:St} {v:Value} (hg:t.2.1.length=20) (h:∀ j u,(stC t.1 t.2.1 v)[j]?=some u→w.cell? ⟨b,o+j,none⟩=some u):loadPart Tryz.prog w 87 b o 22=.ok (.agg (stC t.1 t.2.1 v)) w:=by
 obtain ⟨d,hu,hd,hi⟩:=rowSt
 unfold loadPart
 simp only [Instr.loadAt,Instr.sureAddr,Sem.run_bind,Sem.run_pure,Result.andThen_ok]
 exact run_loadVar_cells w b o 87 (stC t.1 t.2.1 v).toList d (fun j v hv=>h j v (by rw [← Array.getElem?_toList];exact hv)) hu hd (by rw [hi,Array.length_toList,stC_size hg])
theorem StNth.all {ok:Nat→Prop} {w:World} {b o:Nat} {t:St} {A:Option Addr} {cap:Nat} (hN:StNth ok w b o t A cap):∀ j u,(stC t.1 t.2.1 (.slice A t.2.2.len cap))[j]?=some u→w.cell? ⟨b,o+j,none⟩=some u:=fun j u hu=>by
 have hj:j < 22:=by
  have:=(Array.getElem?_eq_some_iff.1 hu).1
  rwa [stC_size hN.len] at this
 by_cases h21:j=21
 ·subst h21
  rw [stC_21 hN.len] at hu
  rw [← hu]
  exact hN.c21
 ·by_cases h0:j=0
  ·subst h0
   rw [stC_0] at hu
   rw [← hu]
   exact hN.c0
  ·obtain ⟨i,rfl⟩:∃ i,j=1+i:=⟨j - 1,by omega⟩
   rw [stC_sp hN.len (by omega)] at hu
   have:=hN.sp i u hu
   rwa [Nat.add_assoc _ 1 i] at this
theorem stC_set2_lit (g0 g1 g2 g3 g4 g5 g6 g7 g8 g9 g10 g11 g12 g13 g14 g15 g16 g17 g18 g19:Int) (a:Int) (v:Value) (x y:Int):((stC a [g0,g1,g2,g3,g4,g5,g6,g7,g8,g9,g10,g11,g12,g13,g14,g15,g16,g17,g18,g19] v).setIfInBounds 1 (.int .i64 x)).setIfInBounds 2 (.int .i64 y)=stC a (spSet [g0,g1,g2,g3,g4,g5,g6,g7,g8,g9,g10,g11,g12,g13,g14,g15,g16,g17,g18,g19] 0 x y) v:=by kernel_rfl
theorem stC_set2 (a:Int) (g:Spn) (v:Value) (x y:Int) (hg:g.length=20):((stC a g v).setIfInBounds 1 (.int .i64 x)).setIfInBounds 2 (.int .i64 y)=stC a (spSet g 0 x y) v:=by
 match g,hg with
 | [g0,g1,g2,g3,g4,g5,g6,g7,g8,g9,g10,g11,g12,g13,g14,g15,g16,g17,g18,g19],_=>exact stC_set2_lit g0 g1 g2 g3 g4 g5 g6 g7 g8 g9 g10 g11 g12 g13 g14 g15 g16 g17 g18 g19 a v x y
theorem stC_span_lit (g0 g1 g2 g3 g4 g5 g6 g7 g8 g9 g10 g11 g12 g13 g14 g15 g16 g17 g18 g19:Int) (a:Int) (v:Value):span (stC a [g0,g1,g2,g3,g4,g5,g6,g7,g8,g9,g10,g11,g12,g13,g14,g15,g16,g17,g18,g19] v) 1 20=spC [g0,g1,g2,g3,g4,g5,g6,g7,g8,g9,g10,g11,g12,g13,g14,g15,g16,g17,g18,g19]:=by kernel_rfl
theorem stC_span (a:Int) (g:Spn) (v:Value) (hg:g.length=20):span (stC a g v) 1 20=spC g:=by
 match g,hg with
 | [g0,g1,g2,g3,g4,g5,g6,g7,g8,g9,g10,g11,g12,g13,g14,g15,g16,g17,g18,g19],_=>exact stC_span_lit g0 g1 g2 g3 g4 g5 g6 g7 g8 g9 g10 g11 g12 g13 g14 g15 g16 g17 g18 g19 a v
def allRk (s:List UInt8) (f:Fr) (most k:Int) (n:Nat):Spn × Bool × Nat:=if k < 0∨(s.length:Int) < k then (spZero,false,n) else allR s f most (s.length+1 - k.toNat) k.toNat n
theorem allRk_stop {s:List UInt8} {f:Fr} {most k:Int} {n:Nat} (h:¬ (k≤s.length∧0≤k∧ovN most n=false)):allRk s f most k n=(spZero,false,n):=by
 unfold allRk
 split
 ·rfl
 ·obtain ⟨m,hm⟩:∃ m,s.length+1 - k.toNat=m+1:=⟨s.length - k.toNat,by omega⟩
  rw [hm,allR,if_pos (by cases ho:ovN most n with | true=>rfl | false=>exact absurd ⟨by omega,by omega,ho⟩ h)]
theorem allRk_step {s:List UInt8} {f:Fr} {most:Int} {a n:Nat} (ha:a≤s.length) (ho:ovN most n=false):allRk s f most a n=match (rowR10 s most f a spNone n).1 with
   | []=>allRk s f most (a+1:Nat) (rowR10 s most f a spNone n).2
   | t::l=>if ovN most (rowR10 s most f a spNone n).2 then allRk s f most (a+1:Nat) (rowR10 s most f a spNone n).2
    else (spSet (bestS t l).2.1 0 a (bestS t l).1,true,(rowR10 s most f a spNone n).2):=by
 have e:∀ n,allR s f most (s.length - a) (a+1) n=allRk s f most (a+1:Nat) n:=fun n=>by
  unfold allRk
  by_cases h:a=s.length
  ·rw [if_pos (by omega),h,Nat.sub_self]
   rfl
  ·rw [if_neg (by omega),show s.length+1 - ((a+1:Nat):Int).toNat=s.length - a by omega,show ((a+1:Nat):Int).toNat=a+1 by omega]
 conv=>lhs;unfold allRk
 rw [if_neg (by omega),show s.length+1 - (a:Int).toNat=(s.length - a)+1 by omega,show (a:Int).toNat=a by omega]
 conv=>lhs;unfold allR
 rw [if_neg (by rw [ho];decide)]
 rw [e]
 cases (rowR10 s most f a spNone n).1 <;> rfl
end Go.Proofs.YtnjagecmhdagkaaGreatDoor
