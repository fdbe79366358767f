/-
 Several texts of the proof: ClsRef, ClsRefPart, ClsRefParse.
-/
import Derived.Test.YtnjagecmhdagkaaGreatDoorPk06
import Derived.Deep.DeepCutAuto
import Derived.Test.YtnjagecmhdagkaaGreatDoorPk11
set_option linter.unusedSimpArgs false
set_option linter.unusedVariables false
set_option maxRecDepth 3000
/-
  Classes: the document's special and Class, walked.
-/
namespace Go.Proofs.YtnjagecmhdagkaaGreatDoor
open Go.RowKit
attribute [local go_sem] tx_bt tx_from
attribute [local go_sem ↓] zero22
theorem kind_at (s:List UInt8) (k:Nat):kindN (s.drop k)=if k+1 < s.length∧bt s k=91∧(bt s (k+1)=58∨bt s (k+1)=46∨bt s (k+1)=61) then bt s (k+1) else 0:=by
 unfold kindN
 rw [bt_drop,bt_drop,Nat.add_zero]
 have:(1 < (s.drop k).length) ↔ (k+1 < s.length):=by simp;omega
 simp only [this]
set_option maxHeartbeats 1000000 in
theorem special_any (s:List UInt8) (k:Nat) (w:World) (hl:s.length≤4000000000) (hk:k≤4000000000):Calls Tryz.prog 107 #[.string (tx s),.int .i64 k] w fun e w'=>e=.returned (.bool (kindN (s.drop k) != 0))∧w=w':=by
 have h0:(0:Int)≤k:=by omega
 have h0b:(0:Int)≤(k:Int)+1:=by omega
 have h0c:((k:Int)+1).toNat=k+1:=by omega
 go_enter Tryz.func107,Tryz.ntmps107
 by_cases h1:k+1 < s.length
 ·have c1:(k:Int)+1 < (s.length:Int):=by omega
  have c1b:(k:Int) < (s.length:Int):=by omega
  by_cases h2:bt s k=91
  ·have c2:((bt s k:Int) == 91)=true:=ieq_true (by omega)
   have hK:(kindN (s.drop k) != 0)=decide (bt s (k+1)=58∨bt s (k+1)=46∨bt s (k+1)=61):=by
    rw [kind_at,Bool.eq_iff_iff]
    simp only [h1,h2,true_and,bne_iff_ne,ne_eq,decide_eq_true_eq]
    split <;> omega
   have HK:=Lib.hid hK
   clear hK
   by_cases h3:bt s (k+1)=58
   ·have c3:((bt s (k+1):Int) == 58)=true:=ieq_true (by omega)
    go_wp2_with fail
    go_ret
    exact ⟨by rw [HK.out];simp [h3],rfl⟩
   ·have c3:((bt s (k+1):Int) == 58)=false:=ieq_false (by omega)
    by_cases h4:bt s (k+1)=46
    ·have c4:((bt s (k+1):Int) == 46)=true:=ieq_true (by omega)
     go_wp2_with fail
     go_ret
     exact ⟨by rw [HK.out];simp [h4],rfl⟩
    ·have c4:((bt s (k+1):Int) == 46)=false:=ieq_false (by omega)
     by_cases h5:bt s (k+1)=61
     ·have c5:((bt s (k+1):Int) == 61)=true:=ieq_true (by omega)
      go_wp2_with fail
      go_ret
      exact ⟨by rw [HK.out];simp [h5],rfl⟩
     ·have c5:((bt s (k+1):Int) == 61)=false:=ieq_false (by omega)
      go_wp2_with fail
      go_ret
      exact ⟨by rw [HK.out];simp [h3,h4,h5],rfl⟩
  ·have c2:((bt s k:Int) == 91)=false:=ieq_false (by omega)
   have hK:(kindN (s.drop k) != 0)=false:=by
    rw [kind_at,if_neg (fun h=>h2 h.2.1)];rfl
   have HK:=Lib.hid hK
   clear hK
   go_wp2_with fail
   go_ret
   exact ⟨by rw [HK.out];rfl,rfl⟩
 ·have c1:¬(k:Int)+1 < (s.length:Int):=by omega
  have hK:(kindN (s.drop k) != 0)=false:=by
   rw [kind_at,if_neg (fun h=>h1 h.1)];rfl
  have HK:=Lib.hid hK
  clear hK
  go_wp2_with fail
  go_ret
  exact ⟨by rw [HK.out];rfl,rfl⟩
set_option maxRecDepth 100000 in
set_option maxHeartbeats 2000000 in
theorem refClass_any (k:ByteArray) (w:World):Calls Tryz.prog 108 #[.string k] w fun e w'=>e=.returned (.tuple #[.agg (SA (classP k)),.bool (clsOf k).isSome])∧Grows w w':=by
 have hin:∀ c:Nat,inP k c=classP k c:=fun c=>by unfold inP classP;cases clsOf k <;> rfl
 go_enter Tryz.func108,Tryz.ntmps108
 go_wp2_with fail
 (with_reducible refine (in_any k 0 _ (by omega) (by omega)).mono ?_)
 rintro e w1 ⟨rfl,rfl⟩
 go_wp2_with fail
 go_loopg [7] 256 (fun q i wr=>∃ j:Nat,q+j=256∧i=.int .i64 j∧wr=(w.alloc (.cells (SA fun _=>false) 89)).alloc (.cells (SA fun c=>decide (c < j) && classP k c) 89))
 case atStart=>exact ⟨0,by omega,rfl,by rw [show (SA fun c=>decide (c < 0) && classP k c)=SA fun _=>false from SA_ext fun c _=>by simp]⟩
 case round =>
  obtain ⟨j,hq,rfl,rfl⟩:=hrel
  have HQ:=Lib.hid hq
  clear hq
  by_cases h1:j < 256
  ·have hcv:IntKind.u8.wrap (j:Int)=j:=byte_conv j h1
   have hix:(0:Int)≤(j:Int):=by omega
   have hst:(SA fun c=>decide (c < j) && classP k c).setIfInBounds j (.bool (classP k j))=SA fun c=>decide (c < j+1) && classP k c:=by
    rw [set_SA]
    exact SA_ext fun c _=>by
     by_cases h:c=j
     ·subst h;simp
     ·by_cases h2:c < j
      ·have h3:c < j+1:=by omega
       simp [h,h2,h3]
      ·have h3:¬c < j+1:=by omega
       simp [h,h2,h3]
   have HST:=Lib.hid hst
   clear hst
   go_wp2_with fail
   (with_reducible refine (in_any k j _ (by omega) (by omega)).mono ?_)
   rw [hin]
   rintro e w1 ⟨rfl,rfl⟩
   go_wp2_with fail
   go_roundg (gk - 1)
   case measure=>have:=HQ.out;omega
   case rel=>exact ⟨j+1,by have:=HQ.out;omega,by go_num,by rw [HST.out]⟩
  ·have hp:(SA fun c=>decide (c < j) && classP k c)=SA (classP k):=SA_ext fun c hc=>by
    have h2:c < j:=by omega
    simp [h2]
   have HP:=Lib.hid hp
   clear hp
   go_wp2_with fail
   rw [HP.out]
   exact bodyPost_ret (v:=.tuple #[.agg (SA (classP k)),.bool (clsOf k).isSome]) (by simp [results,Tryz.results108,go_sem]) rfl ⟨rfl,((Grows.refl _).alloc _).alloc _⟩
end Go.Proofs.YtnjagecmhdagkaaGreatDoor
namespace Go.Proofs.YtnjagecmhdagkaaGreatDoor
open Go.RowKit
attribute [local go_sem] tx_bt tx_from
attribute [local go_sem ↓] zero22
theorem bt_at (s:List UInt8) (i:Nat) (h:i < s.length) (n:Nat) (c:UInt8) (hc:c.toNat=n):s[i]=c ↔ bt s i=n:=by
 rw [bt_get s i h]
 exact ⟨fun e=>by rw [e,hc],fun e=>UInt8.toNat_inj.1 (by rw [e,hc])⟩
theorem cutV_at (s:List UInt8) (i:Nat) (h:i < s.length):cutV (s.drop i)=if bt s i=58∧i+1 < s.length∧bt s (i+1)=93 then some ([],s.drop (i+2)) else (cutV (s.drop (i+1))).map fun x=>(s[i]::x.1,x.2):=by
 rw [List.drop_eq_getElem_cons h]
 conv=>lhs;unfold cutV
 have e1:(s[i]=58∧(s.drop (i+1)).head?=some 93) ↔ (bt s i=58∧i+1 < s.length∧bt s (i+1)=93):=by
  rw [bt_at s i h 58 58 rfl,List.head?_drop]
  constructor
  ·rintro ⟨h1,h2⟩
   obtain ⟨h3,h4⟩:=List.getElem?_eq_some_iff.1 h2
   exact ⟨h1,h3,(bt_at s (i+1) h3 93 93 rfl).1 h4⟩
  ·rintro ⟨h1,h3,h4⟩
   exact ⟨h1,by rw [List.getElem?_eq_getElem h3,(bt_at s (i+1) h3 93 93 rfl).2 h4]⟩
 simp only [e1,List.tail_drop]
theorem cutV_short (s:List UInt8) (i:Nat) (h:s.length≤i+1):cutV (s.drop i)=none:=by
 rcases Nat.lt_or_ge i s.length with h1 | h1
 ·rw [cutV_at s i h1,if_neg (fun h=>by omega),List.drop_of_length_le (by omega)]
  rfl
 ·rw [List.drop_of_length_le h1];rfl
def CutAt (s:List UInt8) (b i:Nat):Prop:=cutV (s.drop b)=(cutV (s.drop i)).map fun x=>((s.drop b).take (i - b)++x.1,x.2)
theorem CutAt.start (s:List UInt8) (b:Nat):CutAt s b b:=by
 unfold CutAt
 simp
theorem CutAt.hit {s:List UInt8} {b i:Nat} (h:CutAt s b i) (h1:i+1 < s.length) (h2:bt s i=58) (h3:bt s (i+1)=93):cutV (s.drop b)=some ((s.drop b).take (i - b),s.drop (i+2)):=by
 unfold CutAt at h
 rw [h,cutV_at s i (by omega),if_pos ⟨h2,h1,h3⟩]
 simp
theorem CutAt.miss {s:List UInt8} {b i:Nat} (h:CutAt s b i) (hb:b≤i) (h1:i < s.length) (h2:¬(bt s i=58∧i+1 < s.length∧bt s (i+1)=93)):CutAt s b (i+1):=by
 unfold CutAt at *
 rw [h,cutV_at s i h1,if_neg h2,Option.map_map]
 congr 1
 funext x
 simp only [Function.comp_apply]
 congr 1
 rw [show i+1 - b=(i - b)+1 by omega,List.take_add_one,List.getElem?_drop,show b+(i - b)=i by omega,List.getElem?_eq_getElem h1]
 simp
def RefPart (s:List UInt8) (k:Nat) (w:World) (e:Ending) (w':World):Prop :=
 ∃ q n b,e=.returned (.tuple #[.agg (SA q),.int .i64 n,.bool b])∧b=(partV (s.drop k)).isSome∧(∀ x,partV (s.drop k)=some x→n=((s.length - x.2.length:Nat):Int)∧SA q=SA fun c=>x.1 c)∧Grows w w'
theorem refPart_none {s:List UInt8} {k:Nat} {w w':World} (h:partV (s.drop k)=none) (hg:Grows w w') (q:Nat→Bool) (n:Int):RefPart s k w (.returned (.tuple #[.agg (SA q),.int .i64 n,.bool false])) w' :=
 ⟨q,n,false,rfl,by rw [h];rfl,fun x hx=>(by rw [h] at hx;cases hx),hg⟩
theorem special_n (s:List UInt8) (k:Nat) (n:Int) (w:World) (hn:n=k) (hl:s.length≤4000000000) (hk:k≤4000000000):Calls Tryz.prog 107 #[.string (tx s),.int .i64 n] w fun e w'=>e=.returned (.bool (kindN (s.drop k) != 0))∧w'=w:=by
 subst hn
 exact (special_any s k w hl hk).mono fun _ _ h=>⟨h.1,h.2.symm⟩
set_option maxRecDepth 100000 in
set_option maxHeartbeats 4000000 in
theorem refPart_any (s:List UInt8) (k:Nat) (w:World) (hl:s.length≤1000000) (hk:k≤1000000):Calls Tryz.prog 90 #[.string (tx s),.int .i64 k] w (RefPart s k w):=by
 have i0:(0:Int)≤k:=by omega
 have i1:(0:Int)≤(k:Int)+1:=by omega
 have i2:(0:Int)≤(k:Int)+2:=by omega
 have j1:((k:Int)+1).toNat=k+1:=by omega
 have j2:((k:Int)+2).toNat=k+2:=by omega
 go_enter Tryz.func90,Tryz.ntmps90
 by_cases h0:k < s.length
 ·have c0:(k:Int) < (s.length:Int):=by omega
  have c0b:¬(s.length:Int)≤(k:Int):=by omega
  go_wp2_with fail
  (with_reducible refine (special_any s k _ (by omega) (by omega)).mono ?_)
  rintro e w1 ⟨rfl,rfl⟩
  have hne:s.drop k≠[]:=by
   intro e
   have:=congrArg List.length e
   simp at this;omega
  by_cases h1:kindN (s.drop k)=0
  ·have c1:(kindN (s.drop k) != 0)=false:=by simpa using h1
   have hp:partV (s.drop k)=if k+2 < s.length∧bt s (k+1)=45∧bt s (k+2)≠93 then if bt s k≤bt s (k+2)∧kindN (s.drop (k+2))=0 then some (spanP (bt s k) (bt s (k+2)),s.drop (k+3)) else none else some (spanP (bt s k) (bt s k),s.drop (k+1)):=by
    unfold partV
    rw [if_neg hne,if_neg (by omega),if_neg (by omega)]
    simp only [bt_drop,List.drop_drop,Nat.add_zero]
    have:(2 < (s.drop k).length) ↔ (k+2 < s.length):=by simp;omega
    simp only [this]
   have HP:=Lib.hid hp
   clear hp hne h1
   by_cases h2:k+2 < s.length∧bt s (k+1)=45∧bt s (k+2)≠93
   ·have d1:(k:Int)+2 < (s.length:Int):=by omega
    have d1b:(k:Int)+1 < (s.length:Int):=by omega
    have d2:((bt s (k+1):Int) == 45)=true:=ieq_true (by omega)
    have d3:((bt s (k+2):Int) != 93)=true:=by simp;omega
    rw [if_pos h2] at HP
    clear h2
    by_cases h3:bt s k≤bt s (k+2)
    ·have d4:decide ((bt s (k+2):Int) < (bt s k:Int))=false:=by simp;omega
     have d4b:¬(bt s (k+2):Int) < (bt s k:Int):=by omega
     have w2:IntKind.i64.wrap ((k:Int)+2)=(k:Int)+2:=by rw [IntWalk.i64_left];unfold wrap64;omega
     by_cases h4:kindN (s.drop (k+2))=0
     ·have d5:(kindN (s.drop (k+2)) != 0)=false:=by simpa using h4
      rw [if_pos ⟨h3,h4⟩] at HP
      go_upto_region 13 with fail
      go_quiet ((go_at_call 107;exact Calls.quiet_of_same (special_n s (k+2) _ _ (by omega) (by omega) (by omega))))
      clear w2
      have hb1:=bt_lt s (k+2)
      have HP2:=HP.out
      clear HP
      generalize hA:bt s k=A at *
      generalize hB:bt s (k+2)=B at *
      have d4n:decide (B < A)=false:=by simp;omega
      try simp only [d4n]
      rw [show ((w.alloc (.cells (SA fun _=>false) 89)).alloc (.cells (SA fun _=>false) 89)).drewN nq=((w.drewN nq).alloc (.cells (SA fun _=>false) 89)).alloc (.cells (SA fun _=>false) 89) from rfl]
      obtain ⟨w9,hw9⟩:∃ w9,w.drewN nq=w9:=⟨_,rfl⟩
      have HG9:Hid (Grows w w9):=Lib.hid (by rw [← hw9];exact (Grows.refl _).drewN _)
      have e9:w.heap.size=w9.heap.size:=by rw [← hw9];rfl
      rw [hw9,e9]
      clear hw9 e9
      go_wp2_with fail
      go_loopg [11] 300 (fun q i wr=>∃ j:Nat,q+j=300+A∧i=.int .i64 j∧A≤j∧j≤B+1∧wr=(w9.alloc (.cells (SA fun _=>false) 89)).alloc (.cells (SA fun c=>decide (A≤c) && decide (c < j)) 89))
      case atStart=>exact ⟨A,by omega,rfl,by omega,by omega,by rw [show (SA fun c=>decide (A≤c) && decide (c < A))=SA fun _=>false from SA_ext fun c _=>by simp]⟩
      case round =>
       obtain ⟨j,hq,rfl,hj1,hj2,rfl⟩:=hrel
       have HQ:=Lib.hid hq
       clear hq
       have j0:(0:Int)≤(j:Int):=by omega
       by_cases h5:j≤B
       ·have c5:(j:Int)≤(B:Int):=by omega
        have c6:(j:Int) < 256:=by omega
        have c7:j < 256:=by omega
        have hst:(SA fun c=>decide (A≤c) && decide (c < j)).setIfInBounds j (.bool true)=SA fun c=>decide (A≤c) && decide (c < j+1):=by
         rw [set_SA]
         exact SA_ext fun c _=>by
          rw [Bool.eq_iff_iff]
          by_cases h:c=j
          ·subst h;simp;omega
          ·simp only [if_neg h,Bool.and_eq_true,decide_eq_true_eq];omega
        have HST:=Lib.hid hst
        clear hst
        go_wp2_with fail
        go_roundg (gk - 1)
        case measure=>have:=HQ.out;omega
        case rel=>exact ⟨j+1,by have:=HQ.out;omega,by go_num,by omega,by omega,by rw [← HST.out]⟩
       ·have c5:¬(j:Int)≤(B:Int):=by omega
        have hp:(SA fun c=>decide (A≤c) && decide (c < j))=SA fun c=>spanP A B c:=SA_ext fun c _=>by
         rw [Bool.eq_iff_iff]
         simp only [spanP,Bool.and_eq_true,decide_eq_true_eq];omega
        have HSP:=Lib.hid hp
        have HP3:=Lib.hid HP2
        clear hp HP2
        go_wp2_with fail
        rw [HSP.out]
        refine bodyPost_ret (v:=.tuple #[.agg (SA fun c=>spanP A B c),.int .i64 ((k:Int)+3),.bool true]) (by simp [results,Tryz.results90,go_sem]) rfl ⟨_,_,_,rfl,by rw [HP3.out];rfl,fun x hx=>?_,(HG9.out.alloc _).alloc _⟩
        rw [HP3.out] at hx
        injection hx with hx
        subst hx
        refine ⟨?_,rfl⟩
        simp only [List.length_drop]
        omega
     ·have d5:(kindN (s.drop (k+2)) != 0)=true:=by simpa using h4
      rw [if_neg (fun h=>h4 h.2)] at HP
      go_upto_region 13 with fail
      go_quiet ((go_at_call 107;exact Calls.quiet_of_same (special_n s (k+2) _ _ (by omega) (by omega) (by omega))))
      clear w2
      go_wp2_with fail
      exact bodyPost_ret (v:=.tuple #[.agg (SA fun _=>false),.int .i64 0,.bool false]) (by simp [results,Tryz.results90,go_sem]) rfl (refPart_none HP.out (by repeat' first | exact Grows.refl _ | refine Grows.more ?_ _ | refine Grows.alloc ?_ _ | refine Grows.drewN ?_ _ | refine Grows.drew ?_) _ _)
    ·have d4b:(bt s (k+2):Int) < (bt s k:Int):=by omega
     have w2:IntKind.i64.wrap ((k:Int)+2)=(k:Int)+2:=by rw [IntWalk.i64_left];unfold wrap64;omega
     rw [if_neg (fun h=>h3 h.1)] at HP
     go_upto_region 13 with fail
     go_quiet (fail)
     clear w2
     go_wp2_with fail
     exact bodyPost_ret (v:=.tuple #[.agg (SA fun _=>false),.int .i64 0,.bool false]) (by simp [results,Tryz.results90,go_sem]) rfl (refPart_none HP.out (by repeat' first | exact Grows.refl _ | refine Grows.more ?_ _ | refine Grows.alloc ?_ _ | refine Grows.drewN ?_ _ | refine Grows.drew ?_) _ _)
   ·rw [if_neg h2] at HP
    have hb1:=bt_lt s k
    have HP2:=HP.out
    clear HP
    have c5:(bt s k:Int) < 256:=by omega
    have c6:(0:Int)≤(bt s k:Int):=by omega
    have c7:bt s k < 256:=hb1
    generalize hA:bt s k=A at *
    have hst:(SA fun _=>false).setIfInBounds A (.bool true)=SA fun c=>spanP A A c:=by
     rw [set_SA]
     exact SA_ext fun c _=>by
      rw [Bool.eq_iff_iff]
      by_cases h:c=A
      ·subst h;simp [spanP]
      ·simp only [if_neg h,spanP,Bool.and_eq_true,decide_eq_true_eq];simp;omega
    have HSP:=Lib.hid hst
    have HP3:=Lib.hid HP2
    clear HP2
    by_cases g1:k+2 < s.length
    ·have d1:(k:Int)+2 < (s.length:Int):=by omega
     have d1b:(k:Int)+1 < (s.length:Int):=by omega
     by_cases g2:bt s (k+1)=45
     ·have d2:((bt s (k+1):Int) == 45)=true:=ieq_true (by omega)
      have g3:bt s (k+2)=93:=Classical.byContradiction fun g=>h2 ⟨g1,g2,g⟩
      have d3:((bt s (k+2):Int) != 93)=false:=by simp;omega
      clear h2 g2 g3
      go_wp2_with fail
      refine bodyPost_ret (v:=.tuple #[.agg (SA fun c=>spanP A A c),.int .i64 ((k:Int)+1),.bool true]) (by simp [results,Tryz.results90,go_sem]) rfl ⟨_,_,_,rfl,by rw [HP3.out];rfl,fun x hx=>?_,(by repeat' first | exact Grows.refl _ | refine Grows.more ?_ _ | refine Grows.alloc ?_ _ | refine Grows.drewN ?_ _ | refine Grows.drew ?_)⟩
      rw [HP3.out] at hx
      injection hx with hx
      subst hx
      refine ⟨?_,rfl⟩
      simp only [List.length_drop]
      omega
     ·have d2:((bt s (k+1):Int) == 45)=false:=ieq_false (by omega)
      clear h2 g2
      go_wp2_with fail
      refine bodyPost_ret (v:=.tuple #[.agg (SA fun c=>spanP A A c),.int .i64 ((k:Int)+1),.bool true]) (by simp [results,Tryz.results90,go_sem]) rfl ⟨_,_,_,rfl,by rw [HP3.out];rfl,fun x hx=>?_,(by repeat' first | exact Grows.refl _ | refine Grows.more ?_ _ | refine Grows.alloc ?_ _ | refine Grows.drewN ?_ _ | refine Grows.drew ?_)⟩
      rw [HP3.out] at hx
      injection hx with hx
      subst hx
      refine ⟨?_,rfl⟩
      simp only [List.length_drop]
      omega
    ·have d1:¬(k:Int)+2 < (s.length:Int):=by omega
     clear h2
     go_wp2_with fail
     refine bodyPost_ret (v:=.tuple #[.agg (SA fun c=>spanP A A c),.int .i64 ((k:Int)+1),.bool true]) (by simp [results,Tryz.results90,go_sem]) rfl ⟨_,_,_,rfl,by rw [HP3.out];rfl,fun x hx=>?_,(by repeat' first | exact Grows.refl _ | refine Grows.more ?_ _ | refine Grows.alloc ?_ _ | refine Grows.drewN ?_ _ | refine Grows.drew ?_)⟩
     rw [HP3.out] at hx
     injection hx with hx
     subst hx
     refine ⟨?_,rfl⟩
     simp only [List.length_drop]
     omega
  ·have c1:(kindN (s.drop k) != 0)=true:=by simpa using h1
   have hk0:=kind_at s k
   have hk1:k+1 < s.length∧bt s k=91∧bt s (k+1)=kindN (s.drop k):=by
    rw [hk0];rw [hk0] at h1
    split at h1
    ·rename_i h;exact ⟨h.1,h.2.1,by rw [if_pos h]⟩
    ·omega
   obtain ⟨k1,k2,k3⟩:=hk1
   have c2:(k:Int)+1 < (s.length:Int):=by omega
   by_cases h2:kindN (s.drop k)=58
   ·have hp:partV (s.drop k)=(cutV (s.drop (k+2))).bind fun x=>(clsOf (tx x.1)).map fun y=>(y.2,x.2):=by
     unfold partV;rw [if_neg hne,if_pos h2,List.drop_drop]
    have c3:((bt s (k+1):Int) == 58)=true:=ieq_true (by omega)
    have HP:=Lib.hid hp
    clear hp hk0 h1 h2 k3 hne
    go_wp2_with fail
    go_loopg [8] (s.length+1) (fun q i wr=>∃ j:Nat,q+j=s.length+k+3∧i=.int .i64 j∧k+2≤j∧CutAt s (k+2) j∧wr=(w.alloc (.cells (SA fun _=>false) 89)).alloc (.cells (SA fun _=>false) 89))
    case atStart=>exact ⟨k+2,by omega,rfl,by omega,CutAt.start _ _,rfl⟩
    case round =>
     obtain ⟨j,hq,rfl,hj,hc,rfl⟩:=hrel
     have HQ:=Lib.hid hq
     have hjb:j≤3000000:=by omega
     have HC:=Lib.hid hc
     clear hq hc
     have j3:((j:Int)+1).toNat=j+1:=by omega
     have j4:(0:Int)≤(j:Int)+1:=by omega
     by_cases h3:j+1 < s.length
     ·have c4:(j:Int)+1 < (s.length:Int):=by omega
      have c5:(j:Int) < (s.length:Int):=by omega
      by_cases h4:bt s j=58∧bt s (j+1)=93
      ·have d1:((bt s j:Int) == 58)=true:=ieq_true (by omega)
       have d2:((bt s (j+1):Int) == 93)=true:=ieq_true (by omega)
       have hcut:=HC.out.hit h3 h4.1 h4.2
       have HP2:=HP.out
       rw [hcut] at HP2
       simp only [Option.bind_some] at HP2
       have hx:(tx s).extract (k+2) j=tx ((s.drop (k+2)).take (j - (k+2))):=tx_mid s (k+2) j
       have hle:(k:Int)+2≤(j:Int):=by omega
       generalize hN:(s.drop (k+2)).take (j - (k+2))=N at *
       have HP3:=Lib.hid HP2
       clear hcut HP2 h4 hN HP
       go_wp2_with fail
       (with_reducible refine (refClass_any (tx N) _).mono ?_)
       rintro e w1 ⟨rfl,m1,rfl⟩
       go_wp2_with fail
       refine bodyPost_ret (v:=.tuple #[.agg (SA (classP (tx N))),.int .i64 ((j:Int)+2),.bool (clsOf (tx N)).isSome]) (by simp [results,Tryz.results90,go_sem]) rfl ⟨classP (tx N),_,_,rfl,?_,fun x hx=>?_,?_⟩
       ·rw [HP3.out,Option.isSome_map]
       ·rw [HP3.out,Option.map_eq_some_iff] at hx
        obtain ⟨y,hy,rfl⟩:=hx
        refine ⟨?_,SA_ext fun c _=>by simp [classP,hy]⟩
        simp only [List.length_drop]
        omega
       ·repeat' first | exact Grows.refl _ | refine Grows.more ?_ _ | refine Grows.alloc ?_ _ | refine Grows.drew ?_
      ·have HC2:=Lib.hid (HC.out.miss hj (by omega) (fun h=>h4 ⟨h.1,h.2.2⟩))
       by_cases h5:bt s j=58
       ·have d1:((bt s j:Int) == 58)=true:=ieq_true (by omega)
        have d2:((bt s (j+1):Int) == 93)=false:=ieq_false (fun e=>h4 ⟨h5,by omega⟩)
        clear h4
        go_wp2_with fail
        go_roundg (gk - 1)
        case measure=>have:=HQ.out;omega
        case rel=>exact ⟨j+1,by have:=HQ.out;omega,by go_num,by omega,HC2.out,rfl⟩
       ·have d1:((bt s j:Int) == 58)=false:=ieq_false (by omega)
        clear h4
        go_wp2_with fail
        go_roundg (gk - 1)
        case measure=>have:=HQ.out;omega
        case rel=>exact ⟨j+1,by have:=HQ.out;omega,by go_num,by omega,HC2.out,rfl⟩
     ·have c4:¬(j:Int)+1 < (s.length:Int):=by omega
      have hcut:cutV (s.drop (k+2))=none:=by
       have:=HC.out
       unfold CutAt at this
       rw [this,cutV_short s j (by omega)];rfl
      have HP2:=HP.out
      rw [hcut] at HP2
      simp only [Option.bind_none] at HP2
      have HP3:=Lib.hid HP2
      clear hcut HP2 HP HC
      go_wp2_with fail
      exact bodyPost_ret (v:=.tuple #[.agg (SA fun _=>false),.int .i64 0,.bool false]) (by simp [results,Tryz.results90,go_sem]) rfl (refPart_none HP3.out (((Grows.refl _).alloc _).alloc _) _ _)
   ·have hp:partV (s.drop k)=none:=by unfold partV;rw [if_neg hne,if_neg h2,if_pos h1]
    have c3:((bt s (k+1):Int) == 58)=false:=ieq_false (by omega)
    have HP:=Lib.hid hp
    clear hp hk0 h1 h2 k3 hne
    by_cases h3:k+2+1 < s.length
    ·have c4:(k:Int)+2+1 < (s.length:Int):=by omega
     have c4b:(k:Int)+3 < (s.length:Int):=by omega
     go_wp2_with fail
     go_loopg [8] 1 (fun q i wr=>i=.int .i64 ((k:Int)+2)∧wr=(w.alloc (.cells (SA fun _=>false) 89)).alloc (.cells (SA fun _=>false) 89))
     case atStart=>exact ⟨rfl,rfl⟩
     case round =>
      obtain ⟨rfl,rfl⟩:=hrel
      go_wp2_with fail
      exact bodyPost_ret (v:=.tuple #[.agg (SA fun _=>false),.int .i64 0,.bool false]) (by simp [results,Tryz.results90,go_sem]) rfl (refPart_none HP.out (((Grows.refl _).alloc _).alloc _) _ _)
    ·have c4:¬(k:Int)+2+1 < (s.length:Int):=by omega
     have c4b:¬(k:Int)+3 < (s.length:Int):=by omega
     go_wp2_with fail
     go_loopg [8] 1 (fun q i wr=>i=.int .i64 ((k:Int)+2)∧wr=(w.alloc (.cells (SA fun _=>false) 89)).alloc (.cells (SA fun _=>false) 89))
     case atStart=>exact ⟨rfl,rfl⟩
     case round =>
      obtain ⟨rfl,rfl⟩:=hrel
      go_wp2_with fail
      exact bodyPost_ret (v:=.tuple #[.agg (SA fun _=>false),.int .i64 0,.bool false]) (by simp [results,Tryz.results90,go_sem]) rfl (refPart_none HP.out (((Grows.refl _).alloc _).alloc _) _ _)
 ·have c0:¬(k:Int) < (s.length:Int):=by omega
  have c0b:(s.length:Int)≤(k:Int):=by omega
  have hp:partV (s.drop k)=none:=by rw [List.drop_of_length_le (by omega)];rfl
  have HP:=Lib.hid hp
  clear hp
  go_wp2_with fail
  exact bodyPost_ret (v:=.tuple #[.agg (SA fun _=>false),.int .i64 0,.bool false]) (by simp [results,Tryz.results90,go_sem]) rfl (refPart_none HP.out (((Grows.refl _).alloc _).alloc _) _ _)
end Go.Proofs.YtnjagecmhdagkaaGreatDoor
namespace Go.Proofs.YtnjagecmhdagkaaGreatDoor
open Go.RowKit
attribute [local go_sem] tx_bt tx_from SA_getElem
attribute [local go_sem ↓] zero22
theorem partV_rest {t:List UInt8} {x:(Int→Bool) × List UInt8} (h:partV t=some x):∃ n,n≤t.length∧x.2=t.drop n:=by
 unfold partV at h
 split at h
 ·cases h
 rename_i h0
 have hl:0 < t.length:=List.length_pos_iff.2 h0
 split at h
 ·rw [Option.bind_eq_some_iff] at h
  obtain ⟨c,hc,h⟩:=h
  rw [Option.map_eq_some_iff] at h
  obtain ⟨y,_,rfl⟩:=h
  have h1:=cutV_split hc
  have h2:=cutV_len hc
  rw [List.length_drop] at h2
  refine ⟨2+(c.1.length+2),by omega,?_⟩
  rw [← List.drop_drop,h1,← List.drop_drop]
  simp
 split at h
 ·cases h
 split at h
 ·rename_i h2
  split at h
  ·injection h with h;subst h;exact ⟨3,by omega,rfl⟩
  ·cases h
 ·injection h with h;subst h;exact ⟨1,by omega,rfl⟩
theorem part_at {s:List UInt8} {i:Nat} {x:(Int→Bool) × List UInt8} (h:partV (s.drop i)=some x) (hi:i≤s.length):i < s.length - x.2.length∧s.length - x.2.length≤s.length∧x.2=s.drop (s.length - x.2.length):=by
 have h1:=partV_len h
 obtain ⟨n,hn,hx⟩:=partV_rest h
 rw [List.drop_drop] at hx
 have h2:x.2.length=s.length - (i+n):=by rw [hx,List.length_drop]
 rw [List.length_drop] at h1 hn
 refine ⟨by omega,by omega,?_⟩
 rw [show s.length - x.2.length=i+n by omega]
 exact hx
theorem alloc_more (w:World) (m:More) (o:Obj):(more w m).alloc o=more w ⟨m.1.push o,m.2⟩:=by simp [more,World.alloc]
def orTo (p q:Nat→Bool) (j:Nat):Nat→Bool:=fun c=>if c < j then p c || q c else p c
theorem or_zero (p q:Nat→Bool):SA (orTo p q 0)=SA p:=SA_ext fun c _=>by simp [orTo]
theorem or_at (p q:Nat→Bool) (j:Nat):orTo p q j j=p j:=by simp [orTo]
theorem or_put (p q:Nat→Bool) (j:Nat) (d:Bool) (h:(p j || q j)=d):(SA (orTo p q j)).setIfInBounds j (.bool d)=SA (orTo p q (j+1)):=by
 rw [set_SA]
 refine SA_ext fun c _=>?_
 unfold orTo
 by_cases h1:c=j
 ·subst h1;simp [h]
 ·by_cases h2:c < j
  ·rw [if_neg h1,if_pos h2,if_pos (by omega)]
  ·rw [if_neg h1,if_neg h2,if_neg (by omega)]
theorem or_end (p q:Nat→Bool) (j:Nat) (h:256≤j):SA (orTo p q j)=SA fun c=>p c || q c:=SA_ext fun c hc=>by
 unfold orTo;rw [if_pos (by omega)]
theorem or_same {p q r:Nat→Bool} (h:SA q=SA r):(SA fun c=>p c || q c)=SA fun c=>p c || r c:=SA_ext fun c hc=>by
 have h1:=congrArg (fun a:Array Value=>a[c]?) h
 simp only [get_SA _ _ hc,Option.some.injEq,Value.bool.injEq] at h1
 rw [h1]
abbrev RW (w:World) (p:Nat→Bool) (m:More):World:=more (((w.alloc (.cells (SA fun _=>false) 89)).alloc (.cells (SA p) 89)).alloc (.cells (SA fun _=>false) 89)) m
set_option maxRecDepth 100000 in
set_option maxHeartbeats 4000000 in
theorem refParse_any (s:List UInt8) (at_:Int) (w:World) (hl:s.length≤1000000) (ha:I64 at_):Calls Tryz.prog 61 #[.string (tx s),.int .i64 at_] w (ParsePost (parseA s at_) w):=by
 obtain ⟨ha1,ha2⟩:=ha
 go_enter Tryz.func61,Tryz.ntmps61
 by_cases h0:at_ < 0
 ·have hA:=parseA_none (s:=s) (at_:=at_) (by omega)
  have HA:=Lib.hid hA
  clear hA
  go_wp2_with fail
  exact bodyPost_ret (v:=.tuple #[.agg (SA fun _=>false),.int .i64 0,.int .i64 90]) (by simp [results,Tryz.results61,go_sem]) rfl ⟨by rw [HA.out],(by repeat' first | exact Grows.refl _ | refine Grows.more ?_ _ | refine Grows.alloc ?_ _ | refine Grows.drew ?_)⟩
 by_cases h1:(s.length:Int)≤at_
 ·have hA:=parseA_none (s:=s) (at_:=at_) (by omega)
  have HA:=Lib.hid hA
  clear hA
  go_wp2_with fail
  exact bodyPost_ret (v:=.tuple #[.agg (SA fun _=>false),.int .i64 0,.int .i64 90]) (by simp [results,Tryz.results61,go_sem]) rfl ⟨by rw [HA.out],(by repeat' first | exact Grows.refl _ | refine Grows.more ?_ _ | refine Grows.alloc ?_ _ | refine Grows.drew ?_)⟩
 obtain ⟨k,rfl⟩:∃ k:Nat,at_=k:=⟨at_.toNat,by omega⟩
 have hk:k < s.length:=by omega
 have hkc:(k:Int) < (s.length:Int):=by omega
 have hA:=parseA_in hk
 have HA0:=Lib.hid hA
 clear hA
 by_cases h2:bt s k=91
 ·have c2:((bt s k:Int) != 91)=false:=by simp;omega
  have hh:(s.drop k).head?=some 91:=(head_bt s k 91 91 rfl).2 ⟨hk,h2⟩
  have he:=head_bt s (k+1) 94 94 rfl
  obtain ⟨i0,nt,hi0,hi1,hi2,hP,hcs⟩:∃ (i0:Nat) (nt:Bool),k < i0∧i0≤s.length∧i0=(if nt then k+2 else k+1)∧parseV (s.drop k)=((loopF true (fun _=>false) (s.drop i0)).map fun x=>(fun c=>x.1 c != nt,(s.drop k).length - x.2.length+1)) ∧
    ((nt=true∧k+1 < s.length∧bt s (k+1)=94)∨(nt=false∧k+1 < s.length∧bt s (k+1)≠94)∨(nt=false∧¬k+1 < s.length)):=by
   by_cases h3:k+1 < s.length∧bt s (k+1)=94
   ·refine ⟨k+2,true,by omega,by omega,rfl,?_,.inl ⟨rfl,h3⟩⟩
    unfold parseV
    rw [if_pos hh,List.drop_drop,if_pos (he.2 h3),List.drop_drop]
   ·refine ⟨k+1,false,by omega,by omega,rfl,?_,.inr ?_⟩
    ·unfold parseV
     rw [if_pos hh,List.drop_drop,if_neg (fun h=>h3 (he.1 h))]
    ·by_cases h4:k+1 < s.length
     ·exact .inl ⟨rfl,h4,fun h=>h3 ⟨h4,h⟩⟩
     ·exact .inr ⟨rfl,h4⟩
  have hA:=HA0.out
  rw [hP] at hA
  have HA:=Lib.hid hA
  clear hA HA0 hP hh h2 he
  have i1':(0:Int)≤(k:Int)+1:=by omega
  have i2':((k:Int)+1).toNat=k+1:=by omega
  go_upto_region 5 with fail
  go_cut [10] (fun s10 wx=>s10=.bool nt∧wx=((w.alloc (.cells (SA fun _=>false) 89)).alloc (.cells (SA fun _=>false) 89)).alloc (.cells (SA fun _=>false) 89))
  case first =>
   rcases hcs with ⟨rfl,h4,h5⟩ | ⟨rfl,h4,h5⟩ | ⟨rfl,h4⟩
   ·have c3:(k:Int)+1 < (s.length:Int):=by omega
    have c4:((bt s (k+1):Int) == 94)=true:=ieq_true (by omega)
    go_wp2_with fail
    go_meet
    case rel=>exact ⟨rfl,rfl⟩
   ·have c3:(k:Int)+1 < (s.length:Int):=by omega
    have c4:((bt s (k+1):Int) == 94)=false:=ieq_false (by omega)
    go_wp2_with fail
    go_meet
    case rel=>exact ⟨rfl,rfl⟩
   ·have c3:¬(k:Int)+1 < (s.length:Int):=by omega
    go_wp2_with fail
    go_meet
    case rel=>exact ⟨rfl,rfl⟩
  case rest =>
   obtain ⟨rfl,rfl⟩:=hcut
   clear hcs
   go_upto_if 44 with fail
   go_cut [9] (fun s9 wx=>s9=.int .i64 i0∧wx=((w.alloc (.cells (SA fun _=>false) 89)).alloc (.cells (SA fun _=>false) 89)).alloc (.cells (SA fun _=>false) 89))
   case first =>
    cases nt with
    | true =>
     have HI:Hid (i0=k+2):=Lib.hid hi2
     clear hi2
     go_wp2_with fail
     go_meet
     case rel=>exact ⟨by rw [HI.out];go_num,rfl⟩
    | false =>
     have HI:Hid (i0=k+1):=Lib.hid hi2
     clear hi2
     go_wp2_with fail
     go_meet
     case rel=>exact ⟨by rw [HI.out];go_num,rfl⟩
   case rest =>
    obtain ⟨rfl,rfl⟩:=hcut
    clear hi2
    go_wp2_with fail
    go_loopg [9,11,12,13,14,15] (s.length+1) (fun q v9 v11 _ _ _ _ wr=>∃ (i:Nat) (f:Bool) (p:Nat→Bool) (m:More),q+i=s.length+1+i0∧i0≤i∧i≤s.length∧v9=.int .i64 i∧v11=.bool f∧loopF true (fun _=>false) (s.drop i0)=loopF f p (s.drop i)∧wr=RW w p m)
    case atStart=>exact ⟨i0,true,fun _=>false,_,by omega,by omega,by omega,rfl,rfl,rfl,more_self _⟩
    case round =>
     obtain ⟨i,f,p,m,hq,hi3,hi4,rfl,rfl,hF,rfl⟩:=hrel
     have HQ:=Lib.hid hq
     have HF:=Lib.hid hF
     clear hq hF
     have hib:i≤1000000:=by omega
     have hi0n:(0:Int)≤(i:Int):=by omega
     by_cases hstop:f=false∧i < s.length∧bt s i=93
     ·obtain ⟨rfl,g1,g2⟩:=hstop
      have c5:¬(s.length:Int)≤(i:Int):=by omega
      have c5b:(i:Int) < (s.length:Int):=by omega
      have c6:((bt s i:Int) != 93)=false:=by simp;omega
      have hF2:=HF.out
      rw [loopF_end p _ ((head_bt s i 93 93 rfl).2 ⟨g1,g2⟩)] at hF2
      have hA:=HA.out
      rw [hF2] at hA
      simp only [Option.map_some] at hA
      have HA2:=Lib.hid hA
      have hsub:(k:Int)+(((s.drop k).length - (s.drop i).length+1:Nat):Int)=i+1:=by simp only [List.length_drop];omega
      have HSUB:=Lib.hid hsub
      clear hF2 hA HA HF hsub g2
      cases nt with
      | false =>
       have hnp:(SA fun c=>p c != false)=SA p:=SA_ext fun c _=>by simp
       have HNP:=Lib.hid hnp
       clear hnp
       go_wp2_with fail
       go_loopg [16] 1 (fun q v16 wr=>v16=.int .i64 0∧wr=RW w p m)
       case atStart=>exact ⟨rfl,rfl⟩
       case round =>
        obtain ⟨rfl,rfl⟩:=hrel
        go_wp2_with fail
        exact bodyPost_ret (v:=.tuple #[.agg (SA p),.int .i64 ((i:Int)+1),.int .i64 0]) (by simp [results,Tryz.results61,go_sem]) rfl ⟨by rw [HA2.out];simp only [];rw [HNP.out,HSUB.out],(by repeat' first | exact Grows.refl _ | refine Grows.more ?_ _ | refine Grows.alloc ?_ _ | refine Grows.drew ?_)⟩
      | true =>
       have HNP:Hid ((SA fun c=>p c != true)=SA fun c=>!p c):=Lib.hid (SA_ext fun c _=>by simp)
       go_wp2_with fail
       go_loopg [16] 256 (fun q v16 wr=>∃ j:Nat,q+j=256∧v16=.int .i64 j∧wr=RW w (flipTo p true j) m)
       case atStart=>exact ⟨0,by omega,rfl,by unfold RW;rw [flip_zero]⟩
       case round =>
        obtain ⟨j,hq2,rfl,rfl⟩:=hrel
        have HQ2:=Lib.hid hq2
        clear hq2
        by_cases h3:j < 256
        ·have j0:(0:Int)≤(j:Int):=by omega
         have j1:(j:Int) < 256:=by omega
         have hfj:=flip_at p true j
         have hfs:=flip_put p true j (!p j) (by cases p j <;> rfl)
         go_wp2_with fail
         go_roundg (gk - 1)
         case measure=>have:=HQ2.out;omega
         case rel=>exact ⟨j+1,by have:=HQ2.out;omega,by go_num,rfl⟩
        ·have hfe:=flip_end p true j (by omega)
         have j1:¬(j:Int) < 256:=by omega
         go_wp2_with fail
         exact bodyPost_ret (v:=.tuple #[.agg (SA fun c=>!p c),.int .i64 ((i:Int)+1),.int .i64 0]) (by simp [results,Tryz.results61,go_sem]) rfl ⟨by rw [HA2.out];simp only [];rw [HNP.out,HSUB.out],(by repeat' first | exact Grows.refl _ | refine Grows.more ?_ _ | refine Grows.alloc ?_ _ | refine Grows.drew ?_)⟩
     ·have hst2:¬(f=false∧(s.drop i).head?=some 93):=fun h=>hstop ⟨h.1,(head_bt s i 93 93 rfl).1 h.2⟩
      have HL1:Hid (partV (s.drop i)=none→loopF true (fun _=>false) (s.drop i0)=none):=Lib.hid fun h=>by rw [HF.out];exact loopF_none hst2 h
      have HL2:Hid (∀ x,partV (s.drop i)=some x→loopF true (fun _=>false) (s.drop i0)=loopF false (fun c=>p c || x.1 c) x.2):=Lib.hid fun x h=>by rw [HF.out];exact loopF_next hst2 h
      clear HF hst2
      have hcs:f=true∨(f=false∧¬i < s.length)∨(f=false∧i < s.length∧bt s i≠93):=by
       cases f with
       | true=>exact .inl rfl
       | false =>
        by_cases g:i < s.length
        ·exact .inr (.inr ⟨rfl,g,fun h=>hstop ⟨rfl,g,h⟩⟩)
        ·exact .inr (.inl ⟨rfl,g⟩)
      clear hstop
      rcases hcs with rfl | ⟨rfl,g⟩ | ⟨rfl,g,g2⟩
      case' inl=>skip
      case' inr.inl =>
       have c5:(s.length:Int)≤(i:Int):=by omega
       clear g
      case' inr.inr =>
       have c5:¬(s.length:Int)≤(i:Int):=by omega
       have c5b:(i:Int) < (s.length:Int):=by omega
       have c6:((bt s i:Int) != 93)=true:=by simp;omega
       clear g g2
      all_goals
       go_wp2_with fail
       (with_reducible refine (refPart_any s i _ (by omega) (by omega)).mono ?_)
       rintro e w1 ⟨q,n,b,rfl,hb,hv,m1,rfl⟩
       rw [more_more]
       generalize (⟨m.1++m1.1,m1.2⟩:More)=m3
       cases hpv:partV (s.drop i) with
       | none =>
        rw [hpv] at hb
        have hA:=HA.out
        rw [HL1.out hpv] at hA
        simp only [Option.isSome_none] at hb
        simp only [Option.map_none] at hA
        subst hb
        have HA2:=Lib.hid hA
        clear hv hA HA HL1 HL2
        go_wp2_with fail
        exact bodyPost_ret (v:=.tuple #[.agg (SA fun _=>false),.int .i64 0,.int .i64 90]) (by simp [results,Tryz.results61,go_sem]) rfl ⟨by rw [HA2.out],(by repeat' first | exact Grows.refl _ | refine Grows.more ?_ _ | refine Grows.alloc ?_ _ | refine Grows.drew ?_)⟩
       | some x =>
        rw [hpv] at hb
        obtain ⟨rfl,hqx⟩:=hv x hpv
        obtain ⟨p1,p2,p3⟩:=part_at hpv hi4
        have hF2:=HL2.out x hpv
        rw [p3] at hF2
        have HF2:=Lib.hid hF2
        have HOR:=Lib.hid (or_same (p:=p) hqx)
        simp only [Option.isSome_some] at hb
        subst hb
        clear hv hF2 HL1 HL2 hpv p3 hqx
        generalize hni:s.length - x.2.length=ni at *
        clear hni
        try (exfalso;omega)
        all_goals
         go_wp2_with fail
         go_loopg [15] 256 (fun u v15 wr=>∃ j:Nat,u+j=256∧v15=.int .i64 j∧wr=(RW w (orTo p q j) m3).alloc (.cells (SA q) 89))
         case atStart=>exact ⟨0,by omega,rfl,by unfold RW;rw [or_zero]⟩
         case round =>
          obtain ⟨j,hq2,rfl,rfl⟩:=hrel
          have HQ2:=Lib.hid hq2
          clear hq2
          by_cases h3:j < 256
          ·have j0:(0:Int)≤(j:Int):=by omega
           have j1:(j:Int) < 256:=by omega
           have hoj:=or_at p q j
           cases hd:p j with
           | true =>
            rw [hd] at hoj
            have hos:=or_put p q j true (by rw [hd];rfl)
            clear hd
            go_wp2_with fail
            go_roundg (gk - 1)
            case measure=>have:=HQ2.out;omega
            case rel=>exact ⟨j+1,by have:=HQ2.out;omega,by go_num,rfl⟩
           | false =>
            rw [hd] at hoj
            have hos:=or_put p q j (q j) (by rw [hd];rfl)
            clear hd
            go_wp2_with fail
            go_roundg (gk - 1)
            case measure=>have:=HQ2.out;omega
            case rel=>exact ⟨j+1,by have:=HQ2.out;omega,by go_num,rfl⟩
          ·have HFE:=Lib.hid (or_end p q j (by omega))
           have j1:¬(j:Int) < 256:=by omega
           go_wp2_with fail
           go_roundg (s.length+1+i0 - ni)
           case measure=>have:=HQ.out;omega
           case rel=>exact ⟨ni,false,fun c=>p c || x.1 c,_,by omega,by omega,by omega,rfl,rfl,HF2.out,by rw [alloc_more,HFE.out,HOR.out]⟩
 ·have c2:((bt s k:Int) != 91)=true:=by simp;omega
  have hA:=HA0.out
  rw [show parseV (s.drop k)=none by unfold parseV;rw [if_neg (fun h=>h2 ((head_bt s k 91 91 rfl).1 h).2)]] at hA
  simp only [] at hA
  have HA:=Lib.hid hA
  clear hA HA0 h2
  go_wp2_with fail
  exact bodyPost_ret (v:=.tuple #[.agg (SA fun _=>false),.int .i64 0,.int .i64 90]) (by simp [results,Tryz.results61,go_sem]) rfl ⟨by rw [HA.out],(by repeat' first | exact Grows.refl _ | refine Grows.more ?_ _ | refine Grows.alloc ?_ _ | refine Grows.drew ?_)⟩
end Go.Proofs.YtnjagecmhdagkaaGreatDoor
