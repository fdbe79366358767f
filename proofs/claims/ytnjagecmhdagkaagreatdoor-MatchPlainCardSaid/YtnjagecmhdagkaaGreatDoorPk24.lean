/-
 Patterns: the document's Parse, walked.
-/
import Derived.Test.YtnjagecmhdagkaaGreatDoorPk23
set_option linter.unusedSimpArgs false
set_option linter.unusedVariables false
set_option maxRecDepth 3000
namespace Go.Proofs.YtnjagecmhdagkaaGreatDoor
open Go.RowKit
def noEnd:Nat→Bool:=fun _=>false
def bldRdr (x:Array (Nat × Value)):Sem Value:=Instr.build 59 x
theorem bldRdr_eq (x:Array (Nat × Value)):Instr.build 59 x=bldRdr x:=rfl
theorem bldRdr_run (s:List UInt8) (w:World):(bldRdr #[(0,.string (tx s))]).run Tryz.prog w=.ok (.agg (rdA s 0 0 0 noEnd false false)) w:=by kernel_rfl
def boxRdr (x:Value):Sem Value:=Instr.box 59 x
theorem boxRdr_eq (x:Value):Instr.box 59 x=boxRdr x:=rfl
theorem boxRdr_run (s:List UInt8) (w:World):(boxRdr (.agg (rdA s 0 0 0 noEnd false false))).run Tryz.prog w=.ok (.pointer (some ⟨w.heap.size,0,none⟩)) (w.alloc (.cells (rdA s 0 0 0 noEnd false false) 59)):=by kernel_rfl
def DocPost (w:World) (R:Option (Fr × RdS)) (e:Ending) (w':World):Prop :=
 match R with
 | none=>e=.returned (.tuple #[.pointer none,.int .i64 90])∧Grows w w'
 | some y=>∃ g A cap,e=.returned (.tuple #[.pointer (some ⟨g,0,none⟩),.int .i64 0])∧w.heap.size≤g∧blk w' g=#[.slice A y.1.len cap,.int .i64 y.2.groups,.int .i64 y.2.many,.bool y.2.refs]∧FrAt (fun b=>w.heap.size≤b) w' A cap y.1∧Grows w w'
theorem doc_of {s:List UInt8} {R:Option (Fr × RdS)} (h:rowR (s.length+1) true false (rd0 s)=R):docV s=R.bind fun y=>if y.2.left=[]∧y.2.groups≤9∧y.2.many≤200 then some y else none:=by
 unfold docV;rw [h]
attribute [local go_sem ↓] bldRdr_eq boxRdr_eq
attribute [local go_sem] bldRdr_run boxRdr_run
set_option maxRecDepth 100000 in
set_option maxHeartbeats 2000000 in
theorem refParse_pat (s:List UInt8) (w:World) (hl:s.length≤1000):Calls Tryz.prog 9 #[.string (tx s)] w (DocPost w (docV s)):=by
 obtain ⟨R,hR⟩:∃ R,rowR (s.length+1) true false (rd0 s)=R:=⟨_,rfl⟩
 have HD:=Lib.hid (doc_of hR)
 have hS:StAt (w.alloc (.cells (rdA s 0 0 0 noEnd false false) 59)) w.heap.size s 0 (rd0 s) false:=⟨blk_alloc_at _ _ _ _ rfl,rfl,Nat.zero_le _,Nat.le_refl _,Nat.le_refl _⟩
 have hcall:=rrow_any (g:=w.heap.size) (s.length+1) (rd0 s) 0 _ hl (Nat.lt_succ_self _) hS
 rw [hR] at hcall
 have HC:=Lib.hid hcall
 clear hR hS hcall
 go_enter Tryz.func9,Tryz.ntmps9
 go_wp2_with fail
 refine HC.out.mono ?_
 intro e w2 hp
 obtain ⟨A,m,cp,at2,t,b2,rfl,hS2,hC2,hK2⟩:=hp.any
 have hG2:Grows w w2:=Chg.grows (n:=0) ((Grows.refl w).alloc _) hC2 fun b e=>by subst e;exact Nat.le_refl _
 have HG:=Lib.hid hG2
 have HK:=Lib.hid hK2
 have hg:w.heap.size < w2.heap.size:=hS2.inh
 obtain ⟨c0,c1,c2,c3,c4,c5⟩:=hS2.rd.cells
 have ig:=hS2.inh
 have ha:at2≤s.length:=hS2.ale
 have hle:t.left=[] ↔ at2=s.length:=by rw [hS2.left,List.drop_eq_nil_iff];omega
 have HL:=Lib.hid hle
 have hm1:=hS2.many
 have hm2:=hS2.groups
 obtain ⟨gb,hgb⟩:∃ z,z=w.heap.size:=⟨_,rfl⟩
 rw [← hgb] at c0 c1 c2 c3 c4 c5 ig hg ⊢
 have HGB:=Lib.hid hgb
 clear hp hS2 hC2 hK2 hG2 hle HC hgb c0
 cases b2 with
 | true =>
  have hV:docV s=none:=by
   rw [HD.out]
   rcases HK.out with ⟨-,k⟩ | ⟨k,-⟩
   ·rw [k];rfl
   ·cases k
  go_wp2_with fail
  rw [hV]
  exact bodyPost_ret (v:=.tuple #[.pointer none,.int .i64 90]) (by simp [results,Tryz.results9,go_sem]) rfl ⟨rfl,HG.out⟩
 | false =>
  obtain ⟨f,hf1,hf2,hf3⟩:∃ f,R=some (f,t)∧m=f.len∧FrAt (fun b=>b≠w.heap.size∧(w.alloc (.cells (rdA s 0 0 0 noEnd false false) 59)).heap.size≤b) w2 A cp f:=by
   rcases HK.out with ⟨k,-⟩ | ⟨-,f,k⟩
   ·cases k
   ·exact ⟨f,k⟩
  have HF:=Lib.hid hf3
  subst hf2
  have hV0:docV s=if t.left=[]∧t.groups≤9∧t.many≤200 then some (f,t) else none:=by rw [HD.out,hf1];rfl
  have HV:=Lib.hid hV0
  clear hf1 hf3 hV0 HD HK
  by_cases k1:at2=s.length
  ·subst k1
   by_cases k2:t.groups≤9
   ·have d2:decide ((9:Int) < (t.groups:Int))=false:=by rw [decide_eq_false_iff_not];omega
    have d2n:decide (9 < t.groups)=false:=by rw [decide_eq_false_iff_not];omega
    by_cases k3:t.many≤200
    ·have d3:decide ((200:Int) < (t.many:Int))=false:=by rw [decide_eq_false_iff_not];omega
     have d3n:decide (200 < t.many)=false:=by rw [decide_eq_false_iff_not];omega
     have hV:docV s=some (f,t):=by rw [HV.out,if_pos ⟨HL.out.2 rfl,k2,k3⟩]
     have HV2:=Lib.hid hV
     clear hV k2 k3
     go_wp2_with fail
     go_region_law (fail)
     all_goals
      go_wp2_with fail
      rw [HV2.out]
      have hz:=HG.out.below.size
      refine bodyPost_ret (v:=.tuple #[.pointer (some ⟨w2.heap.size,0,none⟩),.int .i64 0]) (by simp [results,Tryz.results9,go_sem]) rfl ⟨w2.heap.size,A,cp,rfl,hz,?_,?_,?_⟩
      ·exact blk_alloc_at _ _ _ _ rfl
      ·refine (HF.out.mono fun b hb h=>?_).grows (by repeat' first | exact Grows.refl _ | refine Grows.drewN ?_ _ | refine Grows.drew ?_ | refine Grows.alloc ?_ _)
       have h2:=h.2
       rw [show (w.alloc (.cells (rdA s 0 0 0 noEnd false false) 59)).heap.size=w.heap.size+1 by simp] at h2
       omega
      ·exact HG.out.trans (by repeat' first | exact Grows.refl _ | refine Grows.drewN ?_ _ | refine Grows.drew ?_ | refine Grows.alloc ?_ _)
    ·have d3:(200:Int) < (t.many:Int):=by omega
     have d3n:200 < t.many:=by omega
     have hV:docV s=none:=by rw [HV.out,if_neg (fun h=>k3 h.2.2)]
     go_wp2_with fail
     rw [hV]
     exact bodyPost_ret (v:=.tuple #[.pointer none,.int .i64 90]) (by simp [results,Tryz.results9,go_sem]) rfl ⟨rfl,HG.out⟩
   ·have d2:(9:Int) < (t.groups:Int):=by omega
    have d2n:9 < t.groups:=by omega
    have hV:docV s=none:=by rw [HV.out,if_neg (fun h=>k2 h.2.1)]
    go_wp2_with fail
    rw [hV]
    exact bodyPost_ret (v:=.tuple #[.pointer none,.int .i64 90]) (by simp [results,Tryz.results9,go_sem]) rfl ⟨rfl,HG.out⟩
  ·have e1:((at2:Int) != (s.length:Int))=true:=by simp;omega
   have e2:(at2 != s.length)=true:=by simp;omega
   have hV:docV s=none:=by rw [HV.out,if_neg (fun h=>k1 (HL.out.1 h.1))]
   clear k1
   go_wp2_with fail
   rw [hV]
   exact bodyPost_ret (v:=.tuple #[.pointer none,.int .i64 90]) (by simp [results,Tryz.results9,go_sem]) rfl ⟨rfl,HG.out⟩
end Go.Proofs.YtnjagecmhdagkaaGreatDoor
