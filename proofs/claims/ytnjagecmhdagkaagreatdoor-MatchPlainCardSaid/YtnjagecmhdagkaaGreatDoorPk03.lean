/-
 Several texts of the proof: ClsIn, ClsPlain.
-/
import Derived.Test.YtnjagecmhdagkaaGreatDoorPk02
import Derived.Deep.DeepCutAuto
import Derived.Test.YtnjagecmhdagkaaGreatDoorPk00
import Derived.Lib.IndexMore
set_option linter.unusedSimpArgs false
set_option linter.unusedVariables false
set_option maxRecDepth 3000
/-
  Classes: the document's In, walked.
-/
namespace Go.Proofs.YtnjagecmhdagkaaGreatDoor
open Go.RowKit
def inP (k:ByteArray) (c:Int):Bool:=match clsOf k with
 | some (_,p)=>p c
 | none=>false
theorem zones (c:Int) (h0:0≤c) (h1:c≤255):(0≤c∧c≤32)∨(33≤c∧c≤47)∨(48≤c∧c≤57)∨(58≤c∧c≤64)∨(65≤c∧c≤90)∨(91≤c∧c≤96)∨(97≤c∧c≤122)∨(123≤c∧c≤126)∨(127≤c∧c≤255):=by omega
theorem cls_lower:clsOf (⟨#[108,111,119,101,114]⟩:ByteArray)=some (2,spanP 97 122):=by kernel_rfl
theorem cls_upper:clsOf (⟨#[117,112,112,101,114]⟩:ByteArray)=some (4,spanP 65 90):=by kernel_rfl
theorem cls_alpha:clsOf (⟨#[97,108,112,104,97]⟩:ByteArray)=some (15,someP [spanP 97 122,spanP 65 90]):=by kernel_rfl
theorem cls_digit:clsOf (⟨#[100,105,103,105,116]⟩:ByteArray)=some (6,spanP 48 57):=by kernel_rfl
theorem cls_alnum:clsOf (⟨#[97,108,110,117,109]⟩:ByteArray)=some (8,someP [spanP 97 122,spanP 65 90,spanP 48 57]):=by kernel_rfl
theorem cls_xdigit:clsOf (⟨#[120,100,105,103,105,116]⟩:ByteArray)=some (21,someP [spanP 48 57,spanP 97 102,spanP 65 70]):=by kernel_rfl
theorem cls_space:clsOf (⟨#[115,112,97,99,101]⟩:ByteArray)=some (26,someP [spanP 9 13,spanP 32 32]):=by kernel_rfl
theorem cls_blank:clsOf (⟨#[98,108,97,110,107]⟩:ByteArray)=some (31,someP [spanP 9 9,spanP 32 32]):=by kernel_rfl
theorem cls_cntrl:clsOf (⟨#[99,110,116,114,108]⟩:ByteArray)=some (36,someP [spanP 0 31,spanP 127 127]):=by kernel_rfl
theorem cls_graph:clsOf (⟨#[103,114,97,112,104]⟩:ByteArray)=some (10,spanP 33 126):=by kernel_rfl
theorem cls_print:clsOf (⟨#[112,114,105,110,116]⟩:ByteArray)=some (38,spanP 32 126):=by kernel_rfl
theorem cls_punct:clsOf (⟨#[112,117,110,99,116]⟩:ByteArray)=some (40,fun c=>(spanP 33 126) c && !((someP [spanP 97 122,spanP 65 90,spanP 48 57]) c)):=by kernel_rfl
theorem cls_none (k:ByteArray) (n0:k≠(⟨#[108,111,119,101,114]⟩:ByteArray)) (n1:k≠(⟨#[117,112,112,101,114]⟩:ByteArray)) (n2:k≠(⟨#[97,108,112,104,97]⟩:ByteArray)) (n3:k≠(⟨#[100,105,103,105,116]⟩:ByteArray)) (n4:k≠(⟨#[97,108,110,117,109]⟩:ByteArray)) (n5:k≠(⟨#[120,100,105,103,105,116]⟩:ByteArray)) (n6:k≠(⟨#[115,112,97,99,101]⟩:ByteArray)) (n7:k≠(⟨#[98,108,97,110,107]⟩:ByteArray)) (n8:k≠(⟨#[99,110,116,114,108]⟩:ByteArray)) (n9:k≠(⟨#[103,114,97,112,104]⟩:ByteArray)) (n10:k≠(⟨#[112,114,105,110,116]⟩:ByteArray)) (n11:k≠(⟨#[112,117,110,99,116]⟩:ByteArray)):clsOf k=none:=by
 cases h:clsOf k with
 | none=>rfl
 | some x =>
  obtain ⟨c,hc,hk,-⟩:=cls_key (i:=x.1) (p:=x.2) h
  simp only [clsL,List.mem_cons,List.not_mem_nil,or_false] at hc
  rcases hc with rfl | rfl | rfl | rfl | rfl | rfl | rfl | rfl | rfl | rfl | rfl | rfl <;> exact absurd hk.symm (by assumption)
set_option maxRecDepth 100000 in
set_option maxHeartbeats 4000000 in
theorem in_any (k:ByteArray) (c:Int) (w:World) (h0:0≤c) (h1:c≤255):Calls Tryz.prog 118 #[.string k,.int .u8 c] w fun e w'=>e=.returned (.tuple #[.bool (inP k c),.bool (clsOf k).isSome])∧w=w':=by
 go_enter Tryz.func118,Tryz.ntmps118
 go_upto_region 1 with fail
 go_cut [6,7,8] (fun s6 s7 s8 wx=>s6=.bool (spanP 97 122 c)∧s7=.bool (spanP 65 90 c)∧s8=.bool (spanP 48 57 c)∧wx=w)
 case first =>
  rcases zones c h0 h1 with ⟨z,z'⟩ | ⟨z,z'⟩ | ⟨z,z'⟩ | ⟨z,z'⟩ | ⟨z,z'⟩ | ⟨z,z'⟩ | ⟨z,z'⟩ | ⟨z,z'⟩ | ⟨z,z'⟩
  ·have a97:decide ((97:Int)≤c)=false:=by simp;omega
   have b122:decide (c≤(122:Int))=true:=by simp;omega
   have a65:decide ((65:Int)≤c)=false:=by simp;omega
   have b90:decide (c≤(90:Int))=true:=by simp;omega
   have a48:decide ((48:Int)≤c)=false:=by simp;omega
   have b57:decide (c≤(57:Int))=true:=by simp;omega
   have a33:decide ((33:Int)≤c)=false:=by simp;omega
   have b126:decide (c≤(126:Int))=true:=by simp;omega
   go_wp2_with fail
   go_meet
   case rel=>exact ⟨by simp [spanP,a97,b122],by simp [spanP,a65,b90],by simp [spanP,a48,b57],rfl⟩
  ·have a97:decide ((97:Int)≤c)=false:=by simp;omega
   have b122:decide (c≤(122:Int))=true:=by simp;omega
   have a65:decide ((65:Int)≤c)=false:=by simp;omega
   have b90:decide (c≤(90:Int))=true:=by simp;omega
   have a48:decide ((48:Int)≤c)=false:=by simp;omega
   have b57:decide (c≤(57:Int))=true:=by simp;omega
   have a33:decide ((33:Int)≤c)=true:=by simp;omega
   have b126:decide (c≤(126:Int))=true:=by simp;omega
   go_wp2_with fail
   go_meet
   case rel=>exact ⟨by simp [spanP,a97,b122],by simp [spanP,a65,b90],by simp [spanP,a48,b57],rfl⟩
  ·have a97:decide ((97:Int)≤c)=false:=by simp;omega
   have b122:decide (c≤(122:Int))=true:=by simp;omega
   have a65:decide ((65:Int)≤c)=false:=by simp;omega
   have b90:decide (c≤(90:Int))=true:=by simp;omega
   have a48:decide ((48:Int)≤c)=true:=by simp;omega
   have b57:decide (c≤(57:Int))=true:=by simp;omega
   have a33:decide ((33:Int)≤c)=true:=by simp;omega
   have b126:decide (c≤(126:Int))=true:=by simp;omega
   go_wp2_with fail
   go_meet
   case rel=>exact ⟨by simp [spanP,a97,b122],by simp [spanP,a65,b90],by simp [spanP,a48,b57],rfl⟩
  ·have a97:decide ((97:Int)≤c)=false:=by simp;omega
   have b122:decide (c≤(122:Int))=true:=by simp;omega
   have a65:decide ((65:Int)≤c)=false:=by simp;omega
   have b90:decide (c≤(90:Int))=true:=by simp;omega
   have a48:decide ((48:Int)≤c)=true:=by simp;omega
   have b57:decide (c≤(57:Int))=false:=by simp;omega
   have a33:decide ((33:Int)≤c)=true:=by simp;omega
   have b126:decide (c≤(126:Int))=true:=by simp;omega
   go_wp2_with fail
   go_meet
   case rel=>exact ⟨by simp [spanP,a97,b122],by simp [spanP,a65,b90],by simp [spanP,a48,b57],rfl⟩
  ·have a97:decide ((97:Int)≤c)=false:=by simp;omega
   have b122:decide (c≤(122:Int))=true:=by simp;omega
   have a65:decide ((65:Int)≤c)=true:=by simp;omega
   have b90:decide (c≤(90:Int))=true:=by simp;omega
   have a48:decide ((48:Int)≤c)=true:=by simp;omega
   have b57:decide (c≤(57:Int))=false:=by simp;omega
   have a33:decide ((33:Int)≤c)=true:=by simp;omega
   have b126:decide (c≤(126:Int))=true:=by simp;omega
   go_wp2_with fail
   go_meet
   case rel=>exact ⟨by simp [spanP,a97,b122],by simp [spanP,a65,b90],by simp [spanP,a48,b57],rfl⟩
  ·have a97:decide ((97:Int)≤c)=false:=by simp;omega
   have b122:decide (c≤(122:Int))=true:=by simp;omega
   have a65:decide ((65:Int)≤c)=true:=by simp;omega
   have b90:decide (c≤(90:Int))=false:=by simp;omega
   have a48:decide ((48:Int)≤c)=true:=by simp;omega
   have b57:decide (c≤(57:Int))=false:=by simp;omega
   have a33:decide ((33:Int)≤c)=true:=by simp;omega
   have b126:decide (c≤(126:Int))=true:=by simp;omega
   go_wp2_with fail
   go_meet
   case rel=>exact ⟨by simp [spanP,a97,b122],by simp [spanP,a65,b90],by simp [spanP,a48,b57],rfl⟩
  ·have a97:decide ((97:Int)≤c)=true:=by simp;omega
   have b122:decide (c≤(122:Int))=true:=by simp;omega
   have a65:decide ((65:Int)≤c)=true:=by simp;omega
   have b90:decide (c≤(90:Int))=false:=by simp;omega
   have a48:decide ((48:Int)≤c)=true:=by simp;omega
   have b57:decide (c≤(57:Int))=false:=by simp;omega
   have a33:decide ((33:Int)≤c)=true:=by simp;omega
   have b126:decide (c≤(126:Int))=true:=by simp;omega
   go_wp2_with fail
   go_meet
   case rel=>exact ⟨by simp [spanP,a97,b122],by simp [spanP,a65,b90],by simp [spanP,a48,b57],rfl⟩
  ·have a97:decide ((97:Int)≤c)=true:=by simp;omega
   have b122:decide (c≤(122:Int))=false:=by simp;omega
   have a65:decide ((65:Int)≤c)=true:=by simp;omega
   have b90:decide (c≤(90:Int))=false:=by simp;omega
   have a48:decide ((48:Int)≤c)=true:=by simp;omega
   have b57:decide (c≤(57:Int))=false:=by simp;omega
   have a33:decide ((33:Int)≤c)=true:=by simp;omega
   have b126:decide (c≤(126:Int))=true:=by simp;omega
   go_wp2_with fail
   go_meet
   case rel=>exact ⟨by simp [spanP,a97,b122],by simp [spanP,a65,b90],by simp [spanP,a48,b57],rfl⟩
  ·have a97:decide ((97:Int)≤c)=true:=by simp;omega
   have b122:decide (c≤(122:Int))=false:=by simp;omega
   have a65:decide ((65:Int)≤c)=true:=by simp;omega
   have b90:decide (c≤(90:Int))=false:=by simp;omega
   have a48:decide ((48:Int)≤c)=true:=by simp;omega
   have b57:decide (c≤(57:Int))=false:=by simp;omega
   have a33:decide ((33:Int)≤c)=true:=by simp;omega
   have b126:decide (c≤(126:Int))=false:=by simp;omega
   go_wp2_with fail
   go_meet
   case rel=>exact ⟨by simp [spanP,a97,b122],by simp [spanP,a65,b90],by simp [spanP,a48,b57],rfl⟩
 case rest =>
  obtain ⟨rfl,rfl,rfl,rfl⟩:=hcut
  go_upto_region 2 with fail
  go_cut [9] (fun s9 wx=>s9=.bool (spanP 33 126 c)∧wx=wc)
  case first =>
   rcases (show c < 33∨(33≤c∧c≤126)∨126 < c by omega) with z | ⟨z,z'⟩ | z
   ·have a33:decide ((33:Int)≤c)=false:=by simp;omega
    have b126:decide (c≤(126:Int))=true:=by simp;omega
    go_wp2_with fail
    go_meet
    case rel=>exact ⟨by simp [spanP,a33,b126],rfl⟩
   ·have a33:decide ((33:Int)≤c)=true:=by simp;omega
    have b126:decide (c≤(126:Int))=true:=by simp;omega
    go_wp2_with fail
    go_meet
    case rel=>exact ⟨by simp [spanP,a33,b126],rfl⟩
   ·have a33:decide ((33:Int)≤c)=true:=by simp;omega
    have b126:decide (c≤(126:Int))=false:=by simp;omega
    go_wp2_with fail
    go_meet
    case rel=>exact ⟨by simp [spanP,a33,b126],rfl⟩
  case rest =>
   obtain ⟨rfl,rfl⟩:=hcut
   by_cases k0:k=(⟨#[108,111,119,101,114]⟩:ByteArray)
   ·subst k0
    have t0:((⟨#[108,111,119,101,114]⟩:ByteArray).toList == (⟨#[108,111,119,101,114]⟩:ByteArray).toList)=true:=str_eq rfl
    all_goals
     go_wp2_with fail
    all_goals
     go_ret2
     refine ⟨?_,rfl⟩
     simp only [inP,cls_lower,Option.isSome_some]
     refine congrArg (fun b=>Ending.returned (.tuple #[.bool b,.bool true])) ?_
     first | rfl | (rw [Bool.eq_iff_iff];simp only [someP,spanP,List.any_cons,List.any_nil,Bool.or_false,Bool.or_eq_true,Bool.and_eq_true,decide_eq_true_eq,Bool.and_eq_false_iff,decide_eq_false_iff_not,Bool.not_eq_true',Bool.not_eq_false',beq_iff_eq,beq_eq_false_iff_ne,Bool.or_eq_false_iff,ne_eq,reduceCtorEq,iff_true,iff_false,true_iff,false_iff,not_or,not_and,Bool.not_eq_true] at *;omega)
   by_cases k1:k=(⟨#[117,112,112,101,114]⟩:ByteArray)
   ·subst k1
    have t0:((⟨#[117,112,112,101,114]⟩:ByteArray).toList == (⟨#[108,111,119,101,114]⟩:ByteArray).toList)=false:=str_ne (fun h=>absurd (congrArg ByteArray.data h) (by decide))
    have t1:((⟨#[117,112,112,101,114]⟩:ByteArray).toList == (⟨#[117,112,112,101,114]⟩:ByteArray).toList)=true:=str_eq rfl
    all_goals
     go_wp2_with fail
    all_goals
     go_ret2
     refine ⟨?_,rfl⟩
     simp only [inP,cls_upper,Option.isSome_some]
     refine congrArg (fun b=>Ending.returned (.tuple #[.bool b,.bool true])) ?_
     first | rfl | (rw [Bool.eq_iff_iff];simp only [someP,spanP,List.any_cons,List.any_nil,Bool.or_false,Bool.or_eq_true,Bool.and_eq_true,decide_eq_true_eq,Bool.and_eq_false_iff,decide_eq_false_iff_not,Bool.not_eq_true',Bool.not_eq_false',beq_iff_eq,beq_eq_false_iff_ne,Bool.or_eq_false_iff,ne_eq,reduceCtorEq,iff_true,iff_false,true_iff,false_iff,not_or,not_and,Bool.not_eq_true] at *;omega)
   by_cases k2:k=(⟨#[97,108,112,104,97]⟩:ByteArray)
   ·subst k2
    have t0:((⟨#[97,108,112,104,97]⟩:ByteArray).toList == (⟨#[108,111,119,101,114]⟩:ByteArray).toList)=false:=str_ne (fun h=>absurd (congrArg ByteArray.data h) (by decide))
    have t1:((⟨#[97,108,112,104,97]⟩:ByteArray).toList == (⟨#[117,112,112,101,114]⟩:ByteArray).toList)=false:=str_ne (fun h=>absurd (congrArg ByteArray.data h) (by decide))
    have t2:((⟨#[97,108,112,104,97]⟩:ByteArray).toList == (⟨#[97,108,112,104,97]⟩:ByteArray).toList)=true:=str_eq rfl
    cases hlo:spanP 97 122 c
    all_goals
     go_wp2_with fail
    all_goals
     go_ret2
     refine ⟨?_,rfl⟩
     simp only [inP,cls_alpha,Option.isSome_some]
     refine congrArg (fun b=>Ending.returned (.tuple #[.bool b,.bool true])) ?_
     first | rfl | (rw [Bool.eq_iff_iff];simp only [someP,spanP,List.any_cons,List.any_nil,Bool.or_false,Bool.or_eq_true,Bool.and_eq_true,decide_eq_true_eq,Bool.and_eq_false_iff,decide_eq_false_iff_not,beq_iff_eq,beq_eq_false_iff_ne,ne_eq,true_iff] at *;omega)
   by_cases k3:k=(⟨#[100,105,103,105,116]⟩:ByteArray)
   ·subst k3
    have t0:((⟨#[100,105,103,105,116]⟩:ByteArray).toList == (⟨#[108,111,119,101,114]⟩:ByteArray).toList)=false:=str_ne (fun h=>absurd (congrArg ByteArray.data h) (by decide))
    have t1:((⟨#[100,105,103,105,116]⟩:ByteArray).toList == (⟨#[117,112,112,101,114]⟩:ByteArray).toList)=false:=str_ne (fun h=>absurd (congrArg ByteArray.data h) (by decide))
    have t2:((⟨#[100,105,103,105,116]⟩:ByteArray).toList == (⟨#[97,108,112,104,97]⟩:ByteArray).toList)=false:=str_ne (fun h=>absurd (congrArg ByteArray.data h) (by decide))
    have t3:((⟨#[100,105,103,105,116]⟩:ByteArray).toList == (⟨#[100,105,103,105,116]⟩:ByteArray).toList)=true:=str_eq rfl
    all_goals
     go_wp2_with fail
    all_goals
     go_ret2
     refine ⟨?_,rfl⟩
     simp only [inP,cls_digit,Option.isSome_some]
     refine congrArg (fun b=>Ending.returned (.tuple #[.bool b,.bool true])) ?_
     first | rfl | (rw [Bool.eq_iff_iff];simp only [someP,spanP,List.any_cons,List.any_nil,Bool.or_false,Bool.or_eq_true,Bool.and_eq_true,decide_eq_true_eq,Bool.and_eq_false_iff,decide_eq_false_iff_not,Bool.not_eq_true',Bool.not_eq_false',beq_iff_eq,beq_eq_false_iff_ne,Bool.or_eq_false_iff,ne_eq,reduceCtorEq,iff_true,iff_false,true_iff,false_iff,not_or,not_and,Bool.not_eq_true] at *;omega)
   by_cases k4:k=(⟨#[97,108,110,117,109]⟩:ByteArray)
   ·subst k4
    have t0:((⟨#[97,108,110,117,109]⟩:ByteArray).toList == (⟨#[108,111,119,101,114]⟩:ByteArray).toList)=false:=str_ne (fun h=>absurd (congrArg ByteArray.data h) (by decide))
    have t1:((⟨#[97,108,110,117,109]⟩:ByteArray).toList == (⟨#[117,112,112,101,114]⟩:ByteArray).toList)=false:=str_ne (fun h=>absurd (congrArg ByteArray.data h) (by decide))
    have t2:((⟨#[97,108,110,117,109]⟩:ByteArray).toList == (⟨#[97,108,112,104,97]⟩:ByteArray).toList)=false:=str_ne (fun h=>absurd (congrArg ByteArray.data h) (by decide))
    have t3:((⟨#[97,108,110,117,109]⟩:ByteArray).toList == (⟨#[100,105,103,105,116]⟩:ByteArray).toList)=false:=str_ne (fun h=>absurd (congrArg ByteArray.data h) (by decide))
    have t4:((⟨#[97,108,110,117,109]⟩:ByteArray).toList == (⟨#[97,108,110,117,109]⟩:ByteArray).toList)=true:=str_eq rfl
    cases hlo:spanP 97 122 c
    cases hup:spanP 65 90 c
    all_goals
     go_wp2_with fail
    all_goals
     go_ret2
     refine ⟨?_,rfl⟩
     simp only [inP,cls_alnum,Option.isSome_some]
     refine congrArg (fun b=>Ending.returned (.tuple #[.bool b,.bool true])) ?_
     first | rfl | (rw [Bool.eq_iff_iff];simp only [someP,spanP,List.any_cons,List.any_nil,Bool.or_false,Bool.or_eq_true,Bool.and_eq_true,decide_eq_true_eq,Bool.and_eq_false_iff,decide_eq_false_iff_not,beq_iff_eq,beq_eq_false_iff_ne,ne_eq,true_iff] at *;omega)
   by_cases k5:k=(⟨#[120,100,105,103,105,116]⟩:ByteArray)
   ·subst k5
    have t0:((⟨#[120,100,105,103,105,116]⟩:ByteArray).toList == (⟨#[108,111,119,101,114]⟩:ByteArray).toList)=false:=str_ne (fun h=>absurd (congrArg ByteArray.data h) (by decide))
    have t1:((⟨#[120,100,105,103,105,116]⟩:ByteArray).toList == (⟨#[117,112,112,101,114]⟩:ByteArray).toList)=false:=str_ne (fun h=>absurd (congrArg ByteArray.data h) (by decide))
    have t2:((⟨#[120,100,105,103,105,116]⟩:ByteArray).toList == (⟨#[97,108,112,104,97]⟩:ByteArray).toList)=false:=str_ne (fun h=>absurd (congrArg ByteArray.data h) (by decide))
    have t3:((⟨#[120,100,105,103,105,116]⟩:ByteArray).toList == (⟨#[100,105,103,105,116]⟩:ByteArray).toList)=false:=str_ne (fun h=>absurd (congrArg ByteArray.data h) (by decide))
    have t4:((⟨#[120,100,105,103,105,116]⟩:ByteArray).toList == (⟨#[97,108,110,117,109]⟩:ByteArray).toList)=false:=str_ne (fun h=>absurd (congrArg ByteArray.data h) (by decide))
    have t5:((⟨#[120,100,105,103,105,116]⟩:ByteArray).toList == (⟨#[120,100,105,103,105,116]⟩:ByteArray).toList)=true:=str_eq rfl
    cases hdi:spanP 48 57 c
    all_goals
     go_wp2_with fail
    all_goals
     go_ret2
     refine ⟨?_,rfl⟩
     simp only [inP,cls_xdigit,Option.isSome_some]
     refine congrArg (fun b=>Ending.returned (.tuple #[.bool b,.bool true])) ?_
     first | rfl | (rw [Bool.eq_iff_iff];simp only [someP,spanP,List.any_cons,List.any_nil,Bool.or_false,Bool.or_eq_true,Bool.and_eq_true,decide_eq_true_eq,Bool.and_eq_false_iff,decide_eq_false_iff_not,beq_iff_eq,beq_eq_false_iff_ne,ne_eq,reduceCtorEq,true_iff,false_iff,not_or,not_and] at *;omega)
   by_cases k6:k=(⟨#[115,112,97,99,101]⟩:ByteArray)
   ·subst k6
    have t0:((⟨#[115,112,97,99,101]⟩:ByteArray).toList == (⟨#[108,111,119,101,114]⟩:ByteArray).toList)=false:=str_ne (fun h=>absurd (congrArg ByteArray.data h) (by decide))
    have t1:((⟨#[115,112,97,99,101]⟩:ByteArray).toList == (⟨#[117,112,112,101,114]⟩:ByteArray).toList)=false:=str_ne (fun h=>absurd (congrArg ByteArray.data h) (by decide))
    have t2:((⟨#[115,112,97,99,101]⟩:ByteArray).toList == (⟨#[97,108,112,104,97]⟩:ByteArray).toList)=false:=str_ne (fun h=>absurd (congrArg ByteArray.data h) (by decide))
    have t3:((⟨#[115,112,97,99,101]⟩:ByteArray).toList == (⟨#[100,105,103,105,116]⟩:ByteArray).toList)=false:=str_ne (fun h=>absurd (congrArg ByteArray.data h) (by decide))
    have t4:((⟨#[115,112,97,99,101]⟩:ByteArray).toList == (⟨#[97,108,110,117,109]⟩:ByteArray).toList)=false:=str_ne (fun h=>absurd (congrArg ByteArray.data h) (by decide))
    have t5:((⟨#[115,112,97,99,101]⟩:ByteArray).toList == (⟨#[120,100,105,103,105,116]⟩:ByteArray).toList)=false:=str_ne (fun h=>absurd (congrArg ByteArray.data h) (by decide))
    have t6:((⟨#[115,112,97,99,101]⟩:ByteArray).toList == (⟨#[115,112,97,99,101]⟩:ByteArray).toList)=true:=str_eq rfl
    all_goals
     go_wp2_with fail
    all_goals
     go_ret2
     refine ⟨?_,rfl⟩
     simp only [inP,cls_space,Option.isSome_some]
     refine congrArg (fun b=>Ending.returned (.tuple #[.bool b,.bool true])) ?_
     first | rfl | (rw [Bool.eq_iff_iff];simp only [someP,spanP,List.any_cons,List.any_nil,Bool.or_false,Bool.or_eq_true,Bool.and_eq_true,decide_eq_true_eq,beq_iff_eq,beq_eq_false_iff_ne,ne_eq,true_iff] at *;omega)
   by_cases k7:k=(⟨#[98,108,97,110,107]⟩:ByteArray)
   ·subst k7
    have t0:((⟨#[98,108,97,110,107]⟩:ByteArray).toList == (⟨#[108,111,119,101,114]⟩:ByteArray).toList)=false:=str_ne (fun h=>absurd (congrArg ByteArray.data h) (by decide))
    have t1:((⟨#[98,108,97,110,107]⟩:ByteArray).toList == (⟨#[117,112,112,101,114]⟩:ByteArray).toList)=false:=str_ne (fun h=>absurd (congrArg ByteArray.data h) (by decide))
    have t2:((⟨#[98,108,97,110,107]⟩:ByteArray).toList == (⟨#[97,108,112,104,97]⟩:ByteArray).toList)=false:=str_ne (fun h=>absurd (congrArg ByteArray.data h) (by decide))
    have t3:((⟨#[98,108,97,110,107]⟩:ByteArray).toList == (⟨#[100,105,103,105,116]⟩:ByteArray).toList)=false:=str_ne (fun h=>absurd (congrArg ByteArray.data h) (by decide))
    have t4:((⟨#[98,108,97,110,107]⟩:ByteArray).toList == (⟨#[97,108,110,117,109]⟩:ByteArray).toList)=false:=str_ne (fun h=>absurd (congrArg ByteArray.data h) (by decide))
    have t5:((⟨#[98,108,97,110,107]⟩:ByteArray).toList == (⟨#[120,100,105,103,105,116]⟩:ByteArray).toList)=false:=str_ne (fun h=>absurd (congrArg ByteArray.data h) (by decide))
    have t6:((⟨#[98,108,97,110,107]⟩:ByteArray).toList == (⟨#[115,112,97,99,101]⟩:ByteArray).toList)=false:=str_ne (fun h=>absurd (congrArg ByteArray.data h) (by decide))
    have t7:((⟨#[98,108,97,110,107]⟩:ByteArray).toList == (⟨#[98,108,97,110,107]⟩:ByteArray).toList)=true:=str_eq rfl
    all_goals
     go_wp2_with fail
    all_goals
     go_ret2
     refine ⟨?_,rfl⟩
     simp only [inP,cls_blank,Option.isSome_some]
     refine congrArg (fun b=>Ending.returned (.tuple #[.bool b,.bool true])) ?_
     first | rfl | (rw [Bool.eq_iff_iff];simp only [someP,spanP,List.any_cons,List.any_nil,Bool.or_false,Bool.or_eq_true,Bool.and_eq_true,decide_eq_true_eq,beq_iff_eq,beq_eq_false_iff_ne,ne_eq,true_iff] at *;omega)
   by_cases k8:k=(⟨#[99,110,116,114,108]⟩:ByteArray)
   ·subst k8
    have t0:((⟨#[99,110,116,114,108]⟩:ByteArray).toList == (⟨#[108,111,119,101,114]⟩:ByteArray).toList)=false:=str_ne (fun h=>absurd (congrArg ByteArray.data h) (by decide))
    have t1:((⟨#[99,110,116,114,108]⟩:ByteArray).toList == (⟨#[117,112,112,101,114]⟩:ByteArray).toList)=false:=str_ne (fun h=>absurd (congrArg ByteArray.data h) (by decide))
    have t2:((⟨#[99,110,116,114,108]⟩:ByteArray).toList == (⟨#[97,108,112,104,97]⟩:ByteArray).toList)=false:=str_ne (fun h=>absurd (congrArg ByteArray.data h) (by decide))
    have t3:((⟨#[99,110,116,114,108]⟩:ByteArray).toList == (⟨#[100,105,103,105,116]⟩:ByteArray).toList)=false:=str_ne (fun h=>absurd (congrArg ByteArray.data h) (by decide))
    have t4:((⟨#[99,110,116,114,108]⟩:ByteArray).toList == (⟨#[97,108,110,117,109]⟩:ByteArray).toList)=false:=str_ne (fun h=>absurd (congrArg ByteArray.data h) (by decide))
    have t5:((⟨#[99,110,116,114,108]⟩:ByteArray).toList == (⟨#[120,100,105,103,105,116]⟩:ByteArray).toList)=false:=str_ne (fun h=>absurd (congrArg ByteArray.data h) (by decide))
    have t6:((⟨#[99,110,116,114,108]⟩:ByteArray).toList == (⟨#[115,112,97,99,101]⟩:ByteArray).toList)=false:=str_ne (fun h=>absurd (congrArg ByteArray.data h) (by decide))
    have t7:((⟨#[99,110,116,114,108]⟩:ByteArray).toList == (⟨#[98,108,97,110,107]⟩:ByteArray).toList)=false:=str_ne (fun h=>absurd (congrArg ByteArray.data h) (by decide))
    have t8:((⟨#[99,110,116,114,108]⟩:ByteArray).toList == (⟨#[99,110,116,114,108]⟩:ByteArray).toList)=true:=str_eq rfl
    all_goals
     go_wp2_with fail
    all_goals
     go_ret2
     refine ⟨?_,rfl⟩
     simp only [inP,cls_cntrl,Option.isSome_some]
     refine congrArg (fun b=>Ending.returned (.tuple #[.bool b,.bool true])) ?_
     first | rfl | (rw [Bool.eq_iff_iff];simp only [someP,spanP,List.any_cons,List.any_nil,Bool.or_false,Bool.or_eq_true,Bool.and_eq_true,decide_eq_true_eq,beq_iff_eq,beq_eq_false_iff_ne,ne_eq,true_iff] at *;omega)
   by_cases k9:k=(⟨#[103,114,97,112,104]⟩:ByteArray)
   ·subst k9
    have t0:((⟨#[103,114,97,112,104]⟩:ByteArray).toList == (⟨#[108,111,119,101,114]⟩:ByteArray).toList)=false:=str_ne (fun h=>absurd (congrArg ByteArray.data h) (by decide))
    have t1:((⟨#[103,114,97,112,104]⟩:ByteArray).toList == (⟨#[117,112,112,101,114]⟩:ByteArray).toList)=false:=str_ne (fun h=>absurd (congrArg ByteArray.data h) (by decide))
    have t2:((⟨#[103,114,97,112,104]⟩:ByteArray).toList == (⟨#[97,108,112,104,97]⟩:ByteArray).toList)=false:=str_ne (fun h=>absurd (congrArg ByteArray.data h) (by decide))
    have t3:((⟨#[103,114,97,112,104]⟩:ByteArray).toList == (⟨#[100,105,103,105,116]⟩:ByteArray).toList)=false:=str_ne (fun h=>absurd (congrArg ByteArray.data h) (by decide))
    have t4:((⟨#[103,114,97,112,104]⟩:ByteArray).toList == (⟨#[97,108,110,117,109]⟩:ByteArray).toList)=false:=str_ne (fun h=>absurd (congrArg ByteArray.data h) (by decide))
    have t5:((⟨#[103,114,97,112,104]⟩:ByteArray).toList == (⟨#[120,100,105,103,105,116]⟩:ByteArray).toList)=false:=str_ne (fun h=>absurd (congrArg ByteArray.data h) (by decide))
    have t6:((⟨#[103,114,97,112,104]⟩:ByteArray).toList == (⟨#[115,112,97,99,101]⟩:ByteArray).toList)=false:=str_ne (fun h=>absurd (congrArg ByteArray.data h) (by decide))
    have t7:((⟨#[103,114,97,112,104]⟩:ByteArray).toList == (⟨#[98,108,97,110,107]⟩:ByteArray).toList)=false:=str_ne (fun h=>absurd (congrArg ByteArray.data h) (by decide))
    have t8:((⟨#[103,114,97,112,104]⟩:ByteArray).toList == (⟨#[99,110,116,114,108]⟩:ByteArray).toList)=false:=str_ne (fun h=>absurd (congrArg ByteArray.data h) (by decide))
    have t9:((⟨#[103,114,97,112,104]⟩:ByteArray).toList == (⟨#[103,114,97,112,104]⟩:ByteArray).toList)=true:=str_eq rfl
    all_goals
     go_wp2_with fail
    all_goals
     go_ret2
     refine ⟨?_,rfl⟩
     simp only [inP,cls_graph,Option.isSome_some]
     refine congrArg (fun b=>Ending.returned (.tuple #[.bool b,.bool true])) ?_
     first | rfl | (rw [Bool.eq_iff_iff];simp only [someP,spanP,List.any_cons,List.any_nil,Bool.or_false,Bool.or_eq_true,Bool.and_eq_true,decide_eq_true_eq,Bool.and_eq_false_iff,decide_eq_false_iff_not,Bool.not_eq_true',Bool.not_eq_false',beq_iff_eq,beq_eq_false_iff_ne,Bool.or_eq_false_iff,ne_eq,reduceCtorEq,iff_true,iff_false,true_iff,false_iff,not_or,not_and,Bool.not_eq_true] at *;omega)
   by_cases k10:k=(⟨#[112,114,105,110,116]⟩:ByteArray)
   ·subst k10
    have t0:((⟨#[112,114,105,110,116]⟩:ByteArray).toList == (⟨#[108,111,119,101,114]⟩:ByteArray).toList)=false:=str_ne (fun h=>absurd (congrArg ByteArray.data h) (by decide))
    have t1:((⟨#[112,114,105,110,116]⟩:ByteArray).toList == (⟨#[117,112,112,101,114]⟩:ByteArray).toList)=false:=str_ne (fun h=>absurd (congrArg ByteArray.data h) (by decide))
    have t2:((⟨#[112,114,105,110,116]⟩:ByteArray).toList == (⟨#[97,108,112,104,97]⟩:ByteArray).toList)=false:=str_ne (fun h=>absurd (congrArg ByteArray.data h) (by decide))
    have t3:((⟨#[112,114,105,110,116]⟩:ByteArray).toList == (⟨#[100,105,103,105,116]⟩:ByteArray).toList)=false:=str_ne (fun h=>absurd (congrArg ByteArray.data h) (by decide))
    have t4:((⟨#[112,114,105,110,116]⟩:ByteArray).toList == (⟨#[97,108,110,117,109]⟩:ByteArray).toList)=false:=str_ne (fun h=>absurd (congrArg ByteArray.data h) (by decide))
    have t5:((⟨#[112,114,105,110,116]⟩:ByteArray).toList == (⟨#[120,100,105,103,105,116]⟩:ByteArray).toList)=false:=str_ne (fun h=>absurd (congrArg ByteArray.data h) (by decide))
    have t6:((⟨#[112,114,105,110,116]⟩:ByteArray).toList == (⟨#[115,112,97,99,101]⟩:ByteArray).toList)=false:=str_ne (fun h=>absurd (congrArg ByteArray.data h) (by decide))
    have t7:((⟨#[112,114,105,110,116]⟩:ByteArray).toList == (⟨#[98,108,97,110,107]⟩:ByteArray).toList)=false:=str_ne (fun h=>absurd (congrArg ByteArray.data h) (by decide))
    have t8:((⟨#[112,114,105,110,116]⟩:ByteArray).toList == (⟨#[99,110,116,114,108]⟩:ByteArray).toList)=false:=str_ne (fun h=>absurd (congrArg ByteArray.data h) (by decide))
    have t9:((⟨#[112,114,105,110,116]⟩:ByteArray).toList == (⟨#[103,114,97,112,104]⟩:ByteArray).toList)=false:=str_ne (fun h=>absurd (congrArg ByteArray.data h) (by decide))
    have t10:((⟨#[112,114,105,110,116]⟩:ByteArray).toList == (⟨#[112,114,105,110,116]⟩:ByteArray).toList)=true:=str_eq rfl
    cases hgr:spanP 33 126 c
    all_goals
     go_wp2_with fail
    all_goals
     go_ret2
     refine ⟨?_,rfl⟩
     simp only [inP,cls_print,Option.isSome_some]
     refine congrArg (fun b=>Ending.returned (.tuple #[.bool b,.bool true])) ?_
     first | rfl | (rw [Bool.eq_iff_iff];simp only [spanP,Bool.and_eq_true,decide_eq_true_eq,Bool.and_eq_false_iff,decide_eq_false_iff_not,beq_iff_eq,beq_eq_false_iff_ne,ne_eq,true_iff] at *;omega)
   by_cases k11:k=(⟨#[112,117,110,99,116]⟩:ByteArray)
   ·subst k11
    have t0:((⟨#[112,117,110,99,116]⟩:ByteArray).toList == (⟨#[108,111,119,101,114]⟩:ByteArray).toList)=false:=str_ne (fun h=>absurd (congrArg ByteArray.data h) (by decide))
    have t1:((⟨#[112,117,110,99,116]⟩:ByteArray).toList == (⟨#[117,112,112,101,114]⟩:ByteArray).toList)=false:=str_ne (fun h=>absurd (congrArg ByteArray.data h) (by decide))
    have t2:((⟨#[112,117,110,99,116]⟩:ByteArray).toList == (⟨#[97,108,112,104,97]⟩:ByteArray).toList)=false:=str_ne (fun h=>absurd (congrArg ByteArray.data h) (by decide))
    have t3:((⟨#[112,117,110,99,116]⟩:ByteArray).toList == (⟨#[100,105,103,105,116]⟩:ByteArray).toList)=false:=str_ne (fun h=>absurd (congrArg ByteArray.data h) (by decide))
    have t4:((⟨#[112,117,110,99,116]⟩:ByteArray).toList == (⟨#[97,108,110,117,109]⟩:ByteArray).toList)=false:=str_ne (fun h=>absurd (congrArg ByteArray.data h) (by decide))
    have t5:((⟨#[112,117,110,99,116]⟩:ByteArray).toList == (⟨#[120,100,105,103,105,116]⟩:ByteArray).toList)=false:=str_ne (fun h=>absurd (congrArg ByteArray.data h) (by decide))
    have t6:((⟨#[112,117,110,99,116]⟩:ByteArray).toList == (⟨#[115,112,97,99,101]⟩:ByteArray).toList)=false:=str_ne (fun h=>absurd (congrArg ByteArray.data h) (by decide))
    have t7:((⟨#[112,117,110,99,116]⟩:ByteArray).toList == (⟨#[98,108,97,110,107]⟩:ByteArray).toList)=false:=str_ne (fun h=>absurd (congrArg ByteArray.data h) (by decide))
    have t8:((⟨#[112,117,110,99,116]⟩:ByteArray).toList == (⟨#[99,110,116,114,108]⟩:ByteArray).toList)=false:=str_ne (fun h=>absurd (congrArg ByteArray.data h) (by decide))
    have t9:((⟨#[112,117,110,99,116]⟩:ByteArray).toList == (⟨#[103,114,97,112,104]⟩:ByteArray).toList)=false:=str_ne (fun h=>absurd (congrArg ByteArray.data h) (by decide))
    have t10:((⟨#[112,117,110,99,116]⟩:ByteArray).toList == (⟨#[112,114,105,110,116]⟩:ByteArray).toList)=false:=str_ne (fun h=>absurd (congrArg ByteArray.data h) (by decide))
    have t11:((⟨#[112,117,110,99,116]⟩:ByteArray).toList == (⟨#[112,117,110,99,116]⟩:ByteArray).toList)=true:=str_eq rfl
    cases hgr:spanP 33 126 c
    cases hlo:spanP 97 122 c
    cases hup:spanP 65 90 c
    cases hdi:spanP 48 57 c
    all_goals
     go_wp2_with fail
    all_goals
     go_ret2
     refine ⟨?_,rfl⟩
     simp only [inP,cls_punct,Option.isSome_some]
     refine congrArg (fun b=>Ending.returned (.tuple #[.bool b,.bool true])) ?_
     first | rfl | (rw [Bool.eq_iff_iff];simp only [someP,spanP,List.any_cons,List.any_nil,Bool.or_false,Bool.and_eq_true,decide_eq_true_eq,Bool.and_eq_false_iff,decide_eq_false_iff_not,Bool.not_eq_true',beq_iff_eq,beq_eq_false_iff_ne,Bool.or_eq_false_iff,ne_eq,reduceCtorEq,false_iff,not_or,not_and] at *;omega)
   have hn:=cls_none k k0 k1 k2 k3 k4 k5 k6 k7 k8 k9 k10 k11
   have t0:(k.toList == ([108,111,119,101,114]:List UInt8))=false:=by rw [← show (⟨#[108,111,119,101,114]⟩:ByteArray).toList=([108,111,119,101,114]:List UInt8) from by rw [ByteArray.toList_eq]];exact str_ne k0
   have t1:(k.toList == ([117,112,112,101,114]:List UInt8))=false:=by rw [← show (⟨#[117,112,112,101,114]⟩:ByteArray).toList=([117,112,112,101,114]:List UInt8) from by rw [ByteArray.toList_eq]];exact str_ne k1
   have t2:(k.toList == ([97,108,112,104,97]:List UInt8))=false:=by rw [← show (⟨#[97,108,112,104,97]⟩:ByteArray).toList=([97,108,112,104,97]:List UInt8) from by rw [ByteArray.toList_eq]];exact str_ne k2
   have t3:(k.toList == ([100,105,103,105,116]:List UInt8))=false:=by rw [← show (⟨#[100,105,103,105,116]⟩:ByteArray).toList=([100,105,103,105,116]:List UInt8) from by rw [ByteArray.toList_eq]];exact str_ne k3
   have t4:(k.toList == ([97,108,110,117,109]:List UInt8))=false:=by rw [← show (⟨#[97,108,110,117,109]⟩:ByteArray).toList=([97,108,110,117,109]:List UInt8) from by rw [ByteArray.toList_eq]];exact str_ne k4
   have t5:(k.toList == ([120,100,105,103,105,116]:List UInt8))=false:=by rw [← show (⟨#[120,100,105,103,105,116]⟩:ByteArray).toList=([120,100,105,103,105,116]:List UInt8) from by rw [ByteArray.toList_eq]];exact str_ne k5
   have t6:(k.toList == ([115,112,97,99,101]:List UInt8))=false:=by rw [← show (⟨#[115,112,97,99,101]⟩:ByteArray).toList=([115,112,97,99,101]:List UInt8) from by rw [ByteArray.toList_eq]];exact str_ne k6
   have t7:(k.toList == ([98,108,97,110,107]:List UInt8))=false:=by rw [← show (⟨#[98,108,97,110,107]⟩:ByteArray).toList=([98,108,97,110,107]:List UInt8) from by rw [ByteArray.toList_eq]];exact str_ne k7
   have t8:(k.toList == ([99,110,116,114,108]:List UInt8))=false:=by rw [← show (⟨#[99,110,116,114,108]⟩:ByteArray).toList=([99,110,116,114,108]:List UInt8) from by rw [ByteArray.toList_eq]];exact str_ne k8
   have t9:(k.toList == ([103,114,97,112,104]:List UInt8))=false:=by rw [← show (⟨#[103,114,97,112,104]⟩:ByteArray).toList=([103,114,97,112,104]:List UInt8) from by rw [ByteArray.toList_eq]];exact str_ne k9
   have t10:(k.toList == ([112,114,105,110,116]:List UInt8))=false:=by rw [← show (⟨#[112,114,105,110,116]⟩:ByteArray).toList=([112,114,105,110,116]:List UInt8) from by rw [ByteArray.toList_eq]];exact str_ne k10
   have t11:(k.toList == ([112,117,110,99,116]:List UInt8))=false:=by rw [← show (⟨#[112,117,110,99,116]⟩:ByteArray).toList=([112,117,110,99,116]:List UInt8) from by rw [ByteArray.toList_eq]];exact str_ne k11
   go_wp2_with fail
   go_ret2
   refine ⟨?_,rfl⟩
   simp only [inP,hn,Option.isSome_none]
   rfl
end Go.Proofs.YtnjagecmhdagkaaGreatDoor
namespace Go.Proofs.YtnjagecmhdagkaaGreatDoor
open Go.RowKit
def kindN (t:List UInt8):Nat:=if 1 < t.length∧bt t 0=91∧(bt t 1=58∨bt t 1=46∨bt t 1=61) then bt t 1 else 0
def cutV:List UInt8→Option (List UInt8 × List UInt8)
 | []=>none
 | a::s=>if a=58∧s.head?=some 93 then some ([],s.tail) else (cutV s).map fun x=>(a::x.1,x.2)
def partV (t:List UInt8):Option ((Int→Bool) × List UInt8) :=
 if t=[] then none
 else if kindN t=58 then (cutV (t.drop 2)).bind fun x=>(clsOf (tx x.1)).map fun y=>(y.2,x.2)
 else if kindN t≠0 then none
 else if 2 < t.length∧bt t 1=45∧bt t 2≠93 then
  if bt t 0≤bt t 2∧kindN (t.drop 2)=0 then some (spanP (bt t 0) (bt t 2),t.drop 3) else none
 else some (spanP (bt t 0) (bt t 0),t.drop 1)
theorem cutV_len {s:List UInt8} {x:List UInt8 × List UInt8} (h:cutV s=some x):x.1.length+x.2.length+2=s.length:=by
 induction s generalizing x with
 | nil=>simp [cutV] at h
 | cons a s ih =>
  unfold cutV at h
  split at h
  ·rename_i hc
   injection h with h
   subst h
   cases s with
   | nil=>simp at hc
   | cons b s=>simp
  ·rw [Option.map_eq_some_iff] at h
   obtain ⟨y,hy,rfl⟩:=h
   have:=ih hy
   simp;omega
theorem cutV_split {s:List UInt8} {x:List UInt8 × List UInt8} (h:cutV s=some x):s=x.1++58::93::x.2:=by
 induction s generalizing x with
 | nil=>simp [cutV] at h
 | cons a s ih =>
  unfold cutV at h
  split at h
  ·rename_i hc
   injection h with h
   subst h
   cases s with
   | nil=>simp at hc
   | cons b s=>simp at hc;simp [hc.1,hc.2]
  ·rw [Option.map_eq_some_iff] at h
   obtain ⟨y,hy,rfl⟩:=h
   rw [ih hy];simp
theorem cut_lib (s:List UInt8):Lib.cut s [58,93]=match cutV s with
  | some x=>(x.1,x.2,true)
  | none=>(s,[],false):=by
 have key:match cutV s with
  | some x=>Lib.index s [58,93]=x.1.length
  | none=>Lib.index s [58,93]=-1:=by
  induction s with
  | nil=>simp [cutV,Lib.index]
  | cons a s ih =>
   unfold cutV Lib.index
   have hp:([58,93]:List UInt8).isPrefixOf (a::s)=decide (a=58∧s.head?=some 93):=by
    cases s with
    | nil=>show (58 == a && false)=_;simp
    | cons b s =>
     show (58 == a && (93 == b && true))=_
     rw [Bool.eq_iff_iff]
     simp only [Bool.and_true,Bool.and_eq_true,beq_iff_eq,List.head?_cons,Option.some.injEq,decide_eq_true_eq]
     exact ⟨fun ⟨h1,h2⟩=>⟨h1.symm,h2.symm⟩,fun ⟨h1,h2⟩=>⟨h1.symm,h2.symm⟩⟩
   by_cases hc:a=58∧s.head?=some 93
   ·have hp1:([58,93]:List UInt8).isPrefixOf (a::s)=true:=by rw [hp];simpa using hc
    rw [if_pos hc,if_pos hp1];simp
   ·have hp0:¬([58,93]:List UInt8).isPrefixOf (a::s)=true:=by rw [hp];simpa using hc
    rw [if_neg hc,if_neg hp0]
    cases hcs:cutV s with
    | none=>rw [hcs] at ih;simp only [Option.map_none] at *;rw [ih];rfl
    | some x =>
     rw [hcs] at ih
     simp only [Option.map_some] at *
     rw [ih]
     have:((x.1.length:Int) == -1)=false:=by rw [beq_eq_false_iff_ne];omega
     rw [this];simp
 unfold Lib.cut
 cases hcs:cutV s with
 | none=>rw [hcs] at key;simp only [] at key;rw [key];simp
 | some x =>
  rw [hcs] at key
  simp only [] at key
  rw [key,if_pos (by omega)]
  have hs:=cutV_split hcs
  simp only [Int.toNat_natCast]
  refine Prod.ext ?_ (Prod.ext ?_ rfl)
  ·simp [hs]
  ·show s.drop (x.1.length+2)=x.2
   rw [hs,← List.drop_drop];simp
theorem partV_len {t:List UInt8} {x:(Int→Bool) × List UInt8} (h:partV t=some x):x.2.length < t.length:=by
 unfold partV at h
 split at h
 ·cases h
 rename_i h0
 have hl:0 < t.length:=List.length_pos_iff.2 h0
 split at h
 ·rw [Option.bind_eq_some_iff] at h
  obtain ⟨c,hc,h⟩:=h
  rw [Option.map_eq_some_iff] at h
  obtain ⟨y,_,rfl⟩:=h
  have:=cutV_len hc
  simp at this ⊢;omega
 split at h
 ·cases h
 split at h
 ·rename_i h2
  split at h
  ·injection h with h;subst h;simp;omega
  ·cases h
 ·injection h with h;subst h;simp;omega
theorem kindN_cases (t:List UInt8):kindN t=58∨kindN t=46∨kindN t=61∨kindN t=0:=by
 unfold kindN;split <;> omega
theorem indexByte_kind (c:UInt8):decide (0≤Lib.indexByte [58,46,61] c)=decide (c=58∨c=46∨c=61):=by
 rw [Bool.eq_iff_iff]
 simp only [Lib.indexByte,decide_eq_true_eq]
 by_cases h1:c=58
 ·subst h1;decide
 by_cases h2:c=46
 ·subst h2;decide
 by_cases h3:c=61
 ·subst h3;decide
 have e1:(58 == c)=false:=by rw [beq_eq_false_iff_ne];exact fun e=>h1 e.symm
 have e2:(46 == c)=false:=by rw [beq_eq_false_iff_ne];exact fun e=>h2 e.symm
 have e3:(61 == c)=false:=by rw [beq_eq_false_iff_ne];exact fun e=>h3 e.symm
 simp [e1,e2,e3,h1,h2,h3]
end Go.Proofs.YtnjagecmhdagkaaGreatDoor
