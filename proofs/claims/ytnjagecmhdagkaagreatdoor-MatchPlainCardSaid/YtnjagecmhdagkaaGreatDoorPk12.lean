/-
 Patterns: what stands behind a backslash, walked, if a row is.
-/
import Derived.Test.YtnjagecmhdagkaaGreatDoorPk11
set_option linter.unusedSimpArgs false
set_option linter.unusedVariables false
set_option maxRecDepth 3000
namespace Go.Proofs.YtnjagecmhdagkaaGreatDoor
open Go.RowKit
attribute [local go_sem ↓] zeroNode bldNd_eq ldNode_eq stNode_eq bldSl_eq
attribute [local go_sem] bld_kind bld_byte bld_set bld_n bld_star bld_times loadNode loadNode_if storeNode storeNode_if ndA_one_slice ndA_0 ndA_258 ndA_261 tx_bt tx_from bldSl_run
abbrev zN:Array Value:=ndA 0 0 noSet 0 0 0 (.slice none 0 0)
section
variable {base g:Nat} {w w' w1 w2:World} {tv ov:Value} {s t:PS} {y:Nk × PS} {e:Ending}
theorem nk_got (h:Pa base w g tv ov s) (hw1:Chg (fun b=>b=g) w w1) (hz:w1.heap.size=w.heap.size+1) (hb1:blk w1 w.heap.size=zN) (hp:NkPost base g tv ov w1 (some y) e w2) :
  ∃ A cap ov',e=.returned (.agg (ndC y.1.1 (.slice A y.1.2.len cap)))∧blk w2 w.heap.size=zN∧∀ c,Pa base (setBlk w2 w.heap.size c) g tv ov' y.2∧StepP (PaK g ov) (PaK g ov') w (setBlk w2 w.heap.size c)∧NkAt (fun b=>w.heap.size≤b∧¬ PaK g ov' b) (setBlk w2 w.heap.size c) (.agg (ndC y.1.1 (.slice A y.1.2.len cap))) y.1:=by
 obtain ⟨v,ov',rfl,hP,hS,A,cap,rfl,hF⟩:=hp
 have hrK:¬ PaK g ov' w.heap.size:=fun hk=>by
  rcases hS.new _ hk with h1 | h1
  ·exact h.fresh h1
  ·omega
 refine ⟨A,cap,ov',rfl,(chg_blk hS.chg (by omega) h.fresh).trans hb1,fun c=>?_⟩
 exact nk_ret hP ((StepP.of_chg (hw1.mono fun b _ e=>(.inl e:PaK g ov b))).trans hS) (Nat.le_refl _) hrK ⟨A,cap,rfl,hF.mono fun b hb h=>⟨⟨by have:=h.1;omega,h.2⟩,by have:=h.1;omega⟩⟩
structure Laid (base g:Nat) (tv ov:Value) (w:World) (t:PS) (w1:World):Prop where
 pa:Pa base w1 g tv ov t
 chg:Chg (fun b=>b=g) w w1
 size:w1.heap.size=w.heap.size+1
 res:blk w1 w.heap.size=zN
theorem laid_left (h:Pa base w g tv ov s) (l:List UInt8) (hl:l.length≤s.left.length):Laid base g tv ov w { s with left:=l } ((w.setCell ⟨g,0,none⟩ (.string (tx l))).alloc (.cells zN 95)) :=
 ⟨(h.setLeft l hl _ rfl).grows ((Grows.refl _).alloc _),(chg_cell w g 0 _).trans (Chg.of_grows ((Grows.refl _).alloc _)),by simp,blk_alloc_at _ _ _ _ (by simp)⟩
theorem laid_same (h:Pa base w g tv ov s):Laid base g tv ov w s (w.alloc (.cells zN 95)) :=
 ⟨h.grows ((Grows.refl _).alloc _),Chg.of_grows ((Grows.refl _).alloc _),by simp,blk_alloc_at _ _ _ _ rfl⟩
theorem Laid.inr (h:Laid base g tv ov w t w1):InHeap w.heap.size w1:=Blk.inHeap h.res (by simp [ndA_size])
theorem Laid.step (h:Laid base g tv ov w t w1) (hg:g < w.heap.size) {t':PS} (_:Pa base w2 g tv ov t') (hC:Chg (fun b=>b=g) w1 w2):blk w2 w.heap.size=zN∧Chg (fun b=>b=g) w w2:=by
 exact ⟨(chg_blk hC (by rw [h.size];omega) (by omega)).trans h.res,h.chg.trans hC⟩
theorem own_cells {l:List Nat} {b c n:Nat} (h:w.ownsRow base 3 1 (.slice (some ⟨b,0,none⟩) n c) n (l.map fun n:Nat=>Value.int .i64 n)):∀ j,j < (l.map fun n:Nat=>(n:Int)).length→w.cell? ⟨b,0+j,none⟩=some (.int .i64 ((l.map fun n:Nat=>(n:Int)).getD j 0)):=by
 intro j hj
 rcases h.2 with ⟨h2,h3⟩ | ⟨e,c',cur,hv,hb,hh,r1,r2,r3,r4⟩
 ·cases h2
 ·cases hv
  rw [cell_of_row w b _ cur _ (0,0) hh,Nat.zero_add]
  have h5:(l.map fun n:Nat=>Value.int .i64 n)[j]?=some (.int .i64 (l[j]'(by simpa using hj))):=by
   rw [List.getElem?_map,List.getElem?_eq_getElem (by simpa using hj)];rfl
  rw [← r4,List.getElem?_take] at h5
  split at h5
  ·rw [Array.getElem?_toList] at h5
   rw [h5]
   simp at hj
   simp [List.getD_eq_getElem?_getD,hj]
  ·cases h5
theorem contains_any (h:Pa base w g tv ov s) (k:Nat) (x:Int) (hx:x=k):∃ A n c,ov=.slice A n c∧Calls Tryz.prog 85 #[.slice A n c,.int .i64 x] w fun e w'=>e=.returned (.bool (decide (k ∈ s.op)))∧w'=w:=by
 subst hx
 have ho:=h.own
 rcases ho.2 with ⟨h2,h3⟩ | ⟨e,c',cur,hv,hb,hh,r1,r2,r3,r4⟩
 ·refine ⟨none,0,0,h2,(Tryz.slices_Contains_int_empty none 0 k w).mono ?_⟩
  rintro e w' ⟨rfl,rfl⟩
  have:s.op=[]:=List.length_eq_zero_iff.1 h3
  exact ⟨by rw [this];rfl,rfl⟩
 ·refine ⟨some ⟨e,0,none⟩,s.op.length,c',hv,?_⟩
  rw [hv] at ho
  have h9:=h.op
  have hg:=h.groups
  refine (Tryz.slices_Contains_int e 0 s.op.length c' (s.op.map fun n:Nat=>(n:Int)) k w (by simp) (by omega) (own_cells ho)).mono ?_
  rintro e w' ⟨rfl,rfl⟩
  refine ⟨?_,rfl⟩
  congr 2
  rw [List.take_of_length_le (by simp),Bool.eq_iff_iff]
  simp
  constructor
  ·rintro ⟨a,ha,e⟩
   have:a=k:=by omega
   subst this
   exact ha
  ·exact fun h=>⟨k,h,rfl⟩
theorem Pa.setRefs (h:Pa base w g tv ov s) (b:Bool):Pa base (w.setCell ⟨g,4,none⟩ (.bool b)) g tv ov { s with refs:=b } :=
 h.self (t:={ s with refs:=b }) (chg_cell w g 4 _) (by rw [pa_put h.cells (paC_pos _ _ _ _ _ _)];rfl) rfl h.parts h.groups (Nat.le_refl _) (Nat.le_refl _)
set_option maxHeartbeats 4000000 in
theorem slash_of (h:Pa base w g tv ov s) (hsn:SaneB base w) (hrow:∀ t:PS,t.left.length≤s.left.length→RowSpec tv t) :
  Calls Tryz.prog 54 #[.pointer (some ⟨g,0,none⟩)] w (NkPost base g tv ov w (slashV (rowF true false) s)):=by
 have ig:=h.inh
 have hgl:g < w.heap.size:=ig
 obtain ⟨q0,-,q2,-,q4,q5⟩:=h.six
 have ff:=h.free
 have H:=Lib.hid h
 obtain ⟨R,hR⟩:∃ R,slashV (rowF true false) s=R:=⟨_,rfl⟩
 rw [hR]
 have HW:=Lib.hid hrow
 have HSN:=Lib.hid hsn
 clear hsn
 cases hl:s.left with
 | nil =>
  have hV:R=none:=by rw [← hR];unfold slashV;rw [hl]
  have he:(tx ([]:List UInt8)).toList.isEmpty=true:=by rw [ByteArray.toList_eq];rfl
  rw [hl] at q0
  clear h hR hrow hl
  go_enter Tryz.func54,Tryz.ntmps54
  go_wp2_with fail
  (with_reducible refine (must_no _).mono ?_)
  rintro e w1 ⟨rfl,rfl⟩
  subst hV
  exact ⟨rfl,rfl,Chg.of_grows ((Grows.refl _).alloc _)⟩
 | cons c l =>
  have hV:R=(if c.toNat=40 then groupV (rowF true false) { s with left:=l }
   else if 49≤c.toNat∧c.toNat≤57 then
    if c.toNat - 48≤s.groups∧c.toNat - 48 ∉ s.op then (node1 { s with left:=l,refs:=true }).map fun s=>((refN (c.toNat - 48),.nil),s) else none
   else if c.toNat=123∨c.toNat=125∨c.toNat=41 then none
   else selfV c.toNat { s with left:=l }):=by rw [← hR];unfold slashV;rw [hl]
  have he:(tx (c::l)).toList.isEmpty=false:=by rw [ByteArray.toList_eq,tx_data];rfl
  have hx:=tail_tx c l
  have hln:l.length≤s.left.length:=by rw [hl];simp
  have L1:=Lib.hid (laid_left h l hln)
  have L0:=Lib.hid (laid_same h)
  have HLE:=Lib.hid hl
  rw [hl] at q0
  clear h hR hrow hl
  obtain ⟨n,hn⟩:∃ n,c.toNat=n:=⟨_,rfl⟩
  rw [hn] at hV
  have hlnH:=Lib.hid hln
  clear hln
  have hln:=hlnH
  by_cases k40:n=40
  ·rw [if_pos k40] at hV
   have HV:=Lib.hid hV
   have e40:((n:Int) == 40)=true:=by rw [beq_iff_eq];omega
   clear hV k40
   go_enter Tryz.func54,Tryz.ntmps54
   go_wp2_with fail
   (with_reducible refine (must_ok _).mono ?_)
   rintro e w1 ⟨rfl,rfl⟩
   go_wp2_with fail
   have hcall:=group_of L1.out.pa (HSN.out.chg L1.out.chg fun b e=>e ▸ H.out.low) (fun t ht=>HW.out t (by have:=hln.out;simp at ht;omega))
   rw [← HV.out] at hcall
   generalize (w.setCell ⟨g,0,none⟩ (.string (tx l))).alloc (.cells zN 95)=w1 at *
   cases R with
   | none =>
    refine hcall.mono ?_
    rintro e w2 ⟨rfl,hc⟩
    exact ⟨rfl,rfl,(L1.out.chg.mono fun b _ e=>.inl e).trans hc⟩
   | some y =>
    refine hcall.mono ?_
    intro e w2 hp
    obtain ⟨A,cap,ov',rfl,hb2,hfin⟩:=nk_got H.out L1.out.chg L1.out.size L1.out.res hp
    have i2:InHeap w.heap.size w2:=Blk.inHeap hb2 (by simp [ndA_size])
    have HF:=Lib.hid hfin
    clear hfin hp hcall
    go_wp2_with fail
    obtain ⟨n1,n2,n3⟩:=HF.out (ndC y.1.1 (.slice A y.1.2.len cap))
    exact bodyPost_ret (results_node 2 rfl rfl (Blk.get _ hb2 (by simp [ndA_size])) (ndA_size _ _ _ _ _ _ _)) rfl ⟨_,_,rfl,n1,n2,n3⟩
  ·rw [if_neg k40] at hV
   by_cases kd:49≤n∧n≤57
   ·rw [if_pos kd] at hV
    obtain ⟨m,hmm⟩:∃ m,m=n - 48:=⟨_,rfl⟩
    rw [← hmm] at hV
    have HV:=Lib.hid hV
    clear hV
    rcases (by omega:n=49∨n=50∨n=51∨n=52∨n=53∨n=54∨n=55∨n=56∨n=57) with kk | kk | kk | kk | kk | kk | kk | kk | kk
    ·have e40:((n:Int) == 40)=false:=by rw [beq_eq_false_iff_ne];omega
     have e49:((n:Int) == 49)=true:=by rw [beq_iff_eq];omega
     obtain rfl:m=1:=by omega
     by_cases c1:1≤s.groups
     ·have d1:decide ((1:Int)≤(s.groups:Int))=true:=by rw [decide_eq_true_eq];omega
      go_enter Tryz.func54,Tryz.ntmps54
      go_wp2_with fail
      (with_reducible refine (must_ok _).mono ?_)
      rintro e w1 ⟨rfl,rfl⟩
      go_wp2_with fail
      obtain ⟨OA,on,oc,hov,hct⟩:=contains_any L0.out.pa 1 (1:Int) rfl
      have HOV:=Lib.hid hov
      subst hov
      (with_reducible refine hct.mono ?_)
      rintro e w1 ⟨rfl,hw⟩
      have hw:=hw.symm
      subst hw
      clear hct
      by_cases c2:1 ∈ s.op
      ·have hV:R=none:=by rw [HV.out,if_neg (fun h=>h.2 c2)]
       have d2:decide (1 ∈ s.op)=true:=by rw [decide_eq_true_eq];exact c2
       rw [d2]
       go_wp2_with fail
       (with_reducible refine (must_no _).mono ?_)
       rintro e w1 ⟨rfl,rfl⟩
       subst hV
       exact ⟨rfl,rfl,L0.out.chg.mono fun b _ e=>.inl e⟩
      ·have d2:decide (1 ∈ s.op)=false:=by rw [decide_eq_false_iff_not];exact c2
       rw [d2]
       have HV2:Hid (R=(node1 { s with left:=l,refs:=true }).map fun s=>((refN 1,.nil),s)):=Lib.hid (by rw [HV.out,if_pos ⟨c1,c2⟩])
       go_wp2_with fail
       (with_reducible refine (must_ok _).mono ?_)
       rintro e w1 ⟨rfl,rfl⟩
       have hPL:=(H.out.setLeft l hln.out (tx l) rfl).setRefs true
       have L2:Hid (Laid base g tv (.slice OA on oc) w { s with left:=l,refs:=true } (((w.setCell ⟨g,0,none⟩ (.string (tx l))).setCell ⟨g,4,none⟩ (.bool true)).alloc (.cells zN 95))):=Lib.hid
        ⟨hPL.grows ((Grows.refl _).alloc _),((chg_cell w g 0 _).trans (chg_cell _ g 4 _)).trans (Chg.of_grows ((Grows.refl _).alloc _)),by simp,blk_alloc_at _ _ _ _ (by simp)⟩
       clear hPL
       go_wp2_with fail
       generalize ((w.setCell ⟨g,0,none⟩ (.string (tx l))).setCell ⟨g,4,none⟩ (.bool true)).alloc (.cells zN 95)=w1 at *
       by_cases hp:s.parts+1≤200
       ·have hV:R=some ((refN 1,.nil),{ s with left:=l,refs:=true,parts:=s.parts+1 }):=by rw [HV2.out];unfold node1;rw [if_pos hp];rfl
        (with_reducible refine (node_ok L2.out.pa hp 6 0 noSet (1:Int) 0 0 none 0 0).mono ?_)
        rintro e w2 ⟨rfl,hP,hC⟩
        obtain ⟨hb2,hC2⟩:=L2.out.step hgl hP hC
        have i2:InHeap w.heap.size w2:=Blk.inHeap hb2 (by simp [ndA_size])
        have HP:=Lib.hid hP
        have HC:=Lib.hid hC2
        clear hP hC hC2
        go_wp2_with fail
        subst hV
        exact bodyPost_ret (results_node 2 rfl rfl (Blk.get _ hb2 (by simp [ndA_size])) (ndA_size _ _ _ _ _ _ _)) rfl (leaf_ret H.out HP.out HC.out (refN 1))
       ·have hV:R=none:=by rw [HV2.out];unfold node1;rw [if_neg hp];rfl
        (with_reducible refine (node_no L2.out.pa hp _ (ndA_one_slice _ _ _ _ _ _ _ _ _) (ndA_size _ _ _ _ _ _ _)).mono ?_)
        rintro e w2 ⟨rfl,hC⟩
        subst hV
        exact ⟨rfl,rfl,(L2.out.chg.trans hC).mono fun b _ e=>.inl e⟩
     ·have d1:decide ((1:Int)≤(s.groups:Int))=false:=by rw [decide_eq_false_iff_not];omega
      have hV:R=none:=by rw [HV.out,if_neg (fun h=>c1 h.1)]
      go_enter Tryz.func54,Tryz.ntmps54
      go_wp2_with fail
      (with_reducible refine (must_ok _).mono ?_)
      rintro e w1 ⟨rfl,rfl⟩
      go_wp2_with fail
      (with_reducible refine (must_no _).mono ?_)
      rintro e w1 ⟨rfl,rfl⟩
      subst hV
      exact ⟨rfl,rfl,L0.out.chg.mono fun b _ e=>.inl e⟩
    ·have e40:((n:Int) == 40)=false:=by rw [beq_eq_false_iff_ne];omega
     have e49:((n:Int) == 49)=false:=by rw [beq_eq_false_iff_ne];omega
     have e50:((n:Int) == 50)=true:=by rw [beq_iff_eq];omega
     obtain rfl:m=2:=by omega
     by_cases c1:2≤s.groups
     ·have d1:decide ((2:Int)≤(s.groups:Int))=true:=by rw [decide_eq_true_eq];omega
      go_enter Tryz.func54,Tryz.ntmps54
      go_wp2_with fail
      (with_reducible refine (must_ok _).mono ?_)
      rintro e w1 ⟨rfl,rfl⟩
      go_wp2_with fail
      obtain ⟨OA,on,oc,hov,hct⟩:=contains_any L0.out.pa 2 (2:Int) rfl
      have HOV:=Lib.hid hov
      subst hov
      (with_reducible refine hct.mono ?_)
      rintro e w1 ⟨rfl,hw⟩
      have hw:=hw.symm
      subst hw
      clear hct
      by_cases c2:2 ∈ s.op
      ·have hV:R=none:=by rw [HV.out,if_neg (fun h=>h.2 c2)]
       have d2:decide (2 ∈ s.op)=true:=by rw [decide_eq_true_eq];exact c2
       rw [d2]
       go_wp2_with fail
       (with_reducible refine (must_no _).mono ?_)
       rintro e w1 ⟨rfl,rfl⟩
       subst hV
       exact ⟨rfl,rfl,L0.out.chg.mono fun b _ e=>.inl e⟩
      ·have d2:decide (2 ∈ s.op)=false:=by rw [decide_eq_false_iff_not];exact c2
       rw [d2]
       have HV2:Hid (R=(node1 { s with left:=l,refs:=true }).map fun s=>((refN 2,.nil),s)):=Lib.hid (by rw [HV.out,if_pos ⟨c1,c2⟩])
       go_wp2_with fail
       (with_reducible refine (must_ok _).mono ?_)
       rintro e w1 ⟨rfl,rfl⟩
       have hPL:=(H.out.setLeft l hln.out (tx l) rfl).setRefs true
       have L2:Hid (Laid base g tv (.slice OA on oc) w { s with left:=l,refs:=true } (((w.setCell ⟨g,0,none⟩ (.string (tx l))).setCell ⟨g,4,none⟩ (.bool true)).alloc (.cells zN 95))):=Lib.hid
        ⟨hPL.grows ((Grows.refl _).alloc _),((chg_cell w g 0 _).trans (chg_cell _ g 4 _)).trans (Chg.of_grows ((Grows.refl _).alloc _)),by simp,blk_alloc_at _ _ _ _ (by simp)⟩
       clear hPL
       go_wp2_with fail
       generalize ((w.setCell ⟨g,0,none⟩ (.string (tx l))).setCell ⟨g,4,none⟩ (.bool true)).alloc (.cells zN 95)=w1 at *
       by_cases hp:s.parts+1≤200
       ·have hV:R=some ((refN 2,.nil),{ s with left:=l,refs:=true,parts:=s.parts+1 }):=by rw [HV2.out];unfold node1;rw [if_pos hp];rfl
        (with_reducible refine (node_ok L2.out.pa hp 6 0 noSet (2:Int) 0 0 none 0 0).mono ?_)
        rintro e w2 ⟨rfl,hP,hC⟩
        obtain ⟨hb2,hC2⟩:=L2.out.step hgl hP hC
        have i2:InHeap w.heap.size w2:=Blk.inHeap hb2 (by simp [ndA_size])
        have HP:=Lib.hid hP
        have HC:=Lib.hid hC2
        clear hP hC hC2
        go_wp2_with fail
        subst hV
        exact bodyPost_ret (results_node 2 rfl rfl (Blk.get _ hb2 (by simp [ndA_size])) (ndA_size _ _ _ _ _ _ _)) rfl (leaf_ret H.out HP.out HC.out (refN 2))
       ·have hV:R=none:=by rw [HV2.out];unfold node1;rw [if_neg hp];rfl
        (with_reducible refine (node_no L2.out.pa hp _ (ndA_one_slice _ _ _ _ _ _ _ _ _) (ndA_size _ _ _ _ _ _ _)).mono ?_)
        rintro e w2 ⟨rfl,hC⟩
        subst hV
        exact ⟨rfl,rfl,(L2.out.chg.trans hC).mono fun b _ e=>.inl e⟩
     ·have d1:decide ((2:Int)≤(s.groups:Int))=false:=by rw [decide_eq_false_iff_not];omega
      have hV:R=none:=by rw [HV.out,if_neg (fun h=>c1 h.1)]
      go_enter Tryz.func54,Tryz.ntmps54
      go_wp2_with fail
      (with_reducible refine (must_ok _).mono ?_)
      rintro e w1 ⟨rfl,rfl⟩
      go_wp2_with fail
      (with_reducible refine (must_no _).mono ?_)
      rintro e w1 ⟨rfl,rfl⟩
      subst hV
      exact ⟨rfl,rfl,L0.out.chg.mono fun b _ e=>.inl e⟩
    ·have e40:((n:Int) == 40)=false:=by rw [beq_eq_false_iff_ne];omega
     have e49:((n:Int) == 49)=false:=by rw [beq_eq_false_iff_ne];omega
     have e50:((n:Int) == 50)=false:=by rw [beq_eq_false_iff_ne];omega
     have e51:((n:Int) == 51)=true:=by rw [beq_iff_eq];omega
     obtain rfl:m=3:=by omega
     by_cases c1:3≤s.groups
     ·have d1:decide ((3:Int)≤(s.groups:Int))=true:=by rw [decide_eq_true_eq];omega
      go_enter Tryz.func54,Tryz.ntmps54
      go_wp2_with fail
      (with_reducible refine (must_ok _).mono ?_)
      rintro e w1 ⟨rfl,rfl⟩
      go_wp2_with fail
      obtain ⟨OA,on,oc,hov,hct⟩:=contains_any L0.out.pa 3 (3:Int) rfl
      have HOV:=Lib.hid hov
      subst hov
      (with_reducible refine hct.mono ?_)
      rintro e w1 ⟨rfl,hw⟩
      have hw:=hw.symm
      subst hw
      clear hct
      by_cases c2:3 ∈ s.op
      ·have hV:R=none:=by rw [HV.out,if_neg (fun h=>h.2 c2)]
       have d2:decide (3 ∈ s.op)=true:=by rw [decide_eq_true_eq];exact c2
       rw [d2]
       go_wp2_with fail
       (with_reducible refine (must_no _).mono ?_)
       rintro e w1 ⟨rfl,rfl⟩
       subst hV
       exact ⟨rfl,rfl,L0.out.chg.mono fun b _ e=>.inl e⟩
      ·have d2:decide (3 ∈ s.op)=false:=by rw [decide_eq_false_iff_not];exact c2
       rw [d2]
       have HV2:Hid (R=(node1 { s with left:=l,refs:=true }).map fun s=>((refN 3,.nil),s)):=Lib.hid (by rw [HV.out,if_pos ⟨c1,c2⟩])
       go_wp2_with fail
       (with_reducible refine (must_ok _).mono ?_)
       rintro e w1 ⟨rfl,rfl⟩
       have hPL:=(H.out.setLeft l hln.out (tx l) rfl).setRefs true
       have L2:Hid (Laid base g tv (.slice OA on oc) w { s with left:=l,refs:=true } (((w.setCell ⟨g,0,none⟩ (.string (tx l))).setCell ⟨g,4,none⟩ (.bool true)).alloc (.cells zN 95))):=Lib.hid
        ⟨hPL.grows ((Grows.refl _).alloc _),((chg_cell w g 0 _).trans (chg_cell _ g 4 _)).trans (Chg.of_grows ((Grows.refl _).alloc _)),by simp,blk_alloc_at _ _ _ _ (by simp)⟩
       clear hPL
       go_wp2_with fail
       generalize ((w.setCell ⟨g,0,none⟩ (.string (tx l))).setCell ⟨g,4,none⟩ (.bool true)).alloc (.cells zN 95)=w1 at *
       by_cases hp:s.parts+1≤200
       ·have hV:R=some ((refN 3,.nil),{ s with left:=l,refs:=true,parts:=s.parts+1 }):=by rw [HV2.out];unfold node1;rw [if_pos hp];rfl
        (with_reducible refine (node_ok L2.out.pa hp 6 0 noSet (3:Int) 0 0 none 0 0).mono ?_)
        rintro e w2 ⟨rfl,hP,hC⟩
        obtain ⟨hb2,hC2⟩:=L2.out.step hgl hP hC
        have i2:InHeap w.heap.size w2:=Blk.inHeap hb2 (by simp [ndA_size])
        have HP:=Lib.hid hP
        have HC:=Lib.hid hC2
        clear hP hC hC2
        go_wp2_with fail
        subst hV
        exact bodyPost_ret (results_node 2 rfl rfl (Blk.get _ hb2 (by simp [ndA_size])) (ndA_size _ _ _ _ _ _ _)) rfl (leaf_ret H.out HP.out HC.out (refN 3))
       ·have hV:R=none:=by rw [HV2.out];unfold node1;rw [if_neg hp];rfl
        (with_reducible refine (node_no L2.out.pa hp _ (ndA_one_slice _ _ _ _ _ _ _ _ _) (ndA_size _ _ _ _ _ _ _)).mono ?_)
        rintro e w2 ⟨rfl,hC⟩
        subst hV
        exact ⟨rfl,rfl,(L2.out.chg.trans hC).mono fun b _ e=>.inl e⟩
     ·have d1:decide ((3:Int)≤(s.groups:Int))=false:=by rw [decide_eq_false_iff_not];omega
      have hV:R=none:=by rw [HV.out,if_neg (fun h=>c1 h.1)]
      go_enter Tryz.func54,Tryz.ntmps54
      go_wp2_with fail
      (with_reducible refine (must_ok _).mono ?_)
      rintro e w1 ⟨rfl,rfl⟩
      go_wp2_with fail
      (with_reducible refine (must_no _).mono ?_)
      rintro e w1 ⟨rfl,rfl⟩
      subst hV
      exact ⟨rfl,rfl,L0.out.chg.mono fun b _ e=>.inl e⟩
    ·have e40:((n:Int) == 40)=false:=by rw [beq_eq_false_iff_ne];omega
     have e49:((n:Int) == 49)=false:=by rw [beq_eq_false_iff_ne];omega
     have e50:((n:Int) == 50)=false:=by rw [beq_eq_false_iff_ne];omega
     have e51:((n:Int) == 51)=false:=by rw [beq_eq_false_iff_ne];omega
     have e52:((n:Int) == 52)=true:=by rw [beq_iff_eq];omega
     obtain rfl:m=4:=by omega
     by_cases c1:4≤s.groups
     ·have d1:decide ((4:Int)≤(s.groups:Int))=true:=by rw [decide_eq_true_eq];omega
      go_enter Tryz.func54,Tryz.ntmps54
      go_wp2_with fail
      (with_reducible refine (must_ok _).mono ?_)
      rintro e w1 ⟨rfl,rfl⟩
      go_wp2_with fail
      obtain ⟨OA,on,oc,hov,hct⟩:=contains_any L0.out.pa 4 (4:Int) rfl
      have HOV:=Lib.hid hov
      subst hov
      (with_reducible refine hct.mono ?_)
      rintro e w1 ⟨rfl,hw⟩
      have hw:=hw.symm
      subst hw
      clear hct
      by_cases c2:4 ∈ s.op
      ·have hV:R=none:=by rw [HV.out,if_neg (fun h=>h.2 c2)]
       have d2:decide (4 ∈ s.op)=true:=by rw [decide_eq_true_eq];exact c2
       rw [d2]
       go_wp2_with fail
       (with_reducible refine (must_no _).mono ?_)
       rintro e w1 ⟨rfl,rfl⟩
       subst hV
       exact ⟨rfl,rfl,L0.out.chg.mono fun b _ e=>.inl e⟩
      ·have d2:decide (4 ∈ s.op)=false:=by rw [decide_eq_false_iff_not];exact c2
       rw [d2]
       have HV2:Hid (R=(node1 { s with left:=l,refs:=true }).map fun s=>((refN 4,.nil),s)):=Lib.hid (by rw [HV.out,if_pos ⟨c1,c2⟩])
       go_wp2_with fail
       (with_reducible refine (must_ok _).mono ?_)
       rintro e w1 ⟨rfl,rfl⟩
       have hPL:=(H.out.setLeft l hln.out (tx l) rfl).setRefs true
       have L2:Hid (Laid base g tv (.slice OA on oc) w { s with left:=l,refs:=true } (((w.setCell ⟨g,0,none⟩ (.string (tx l))).setCell ⟨g,4,none⟩ (.bool true)).alloc (.cells zN 95))):=Lib.hid
        ⟨hPL.grows ((Grows.refl _).alloc _),((chg_cell w g 0 _).trans (chg_cell _ g 4 _)).trans (Chg.of_grows ((Grows.refl _).alloc _)),by simp,blk_alloc_at _ _ _ _ (by simp)⟩
       clear hPL
       go_wp2_with fail
       generalize ((w.setCell ⟨g,0,none⟩ (.string (tx l))).setCell ⟨g,4,none⟩ (.bool true)).alloc (.cells zN 95)=w1 at *
       by_cases hp:s.parts+1≤200
       ·have hV:R=some ((refN 4,.nil),{ s with left:=l,refs:=true,parts:=s.parts+1 }):=by rw [HV2.out];unfold node1;rw [if_pos hp];rfl
        (with_reducible refine (node_ok L2.out.pa hp 6 0 noSet (4:Int) 0 0 none 0 0).mono ?_)
        rintro e w2 ⟨rfl,hP,hC⟩
        obtain ⟨hb2,hC2⟩:=L2.out.step hgl hP hC
        have i2:InHeap w.heap.size w2:=Blk.inHeap hb2 (by simp [ndA_size])
        have HP:=Lib.hid hP
        have HC:=Lib.hid hC2
        clear hP hC hC2
        go_wp2_with fail
        subst hV
        exact bodyPost_ret (results_node 2 rfl rfl (Blk.get _ hb2 (by simp [ndA_size])) (ndA_size _ _ _ _ _ _ _)) rfl (leaf_ret H.out HP.out HC.out (refN 4))
       ·have hV:R=none:=by rw [HV2.out];unfold node1;rw [if_neg hp];rfl
        (with_reducible refine (node_no L2.out.pa hp _ (ndA_one_slice _ _ _ _ _ _ _ _ _) (ndA_size _ _ _ _ _ _ _)).mono ?_)
        rintro e w2 ⟨rfl,hC⟩
        subst hV
        exact ⟨rfl,rfl,(L2.out.chg.trans hC).mono fun b _ e=>.inl e⟩
     ·have d1:decide ((4:Int)≤(s.groups:Int))=false:=by rw [decide_eq_false_iff_not];omega
      have hV:R=none:=by rw [HV.out,if_neg (fun h=>c1 h.1)]
      go_enter Tryz.func54,Tryz.ntmps54
      go_wp2_with fail
      (with_reducible refine (must_ok _).mono ?_)
      rintro e w1 ⟨rfl,rfl⟩
      go_wp2_with fail
      (with_reducible refine (must_no _).mono ?_)
      rintro e w1 ⟨rfl,rfl⟩
      subst hV
      exact ⟨rfl,rfl,L0.out.chg.mono fun b _ e=>.inl e⟩
    ·have e40:((n:Int) == 40)=false:=by rw [beq_eq_false_iff_ne];omega
     have e49:((n:Int) == 49)=false:=by rw [beq_eq_false_iff_ne];omega
     have e50:((n:Int) == 50)=false:=by rw [beq_eq_false_iff_ne];omega
     have e51:((n:Int) == 51)=false:=by rw [beq_eq_false_iff_ne];omega
     have e52:((n:Int) == 52)=false:=by rw [beq_eq_false_iff_ne];omega
     have e53:((n:Int) == 53)=true:=by rw [beq_iff_eq];omega
     obtain rfl:m=5:=by omega
     by_cases c1:5≤s.groups
     ·have d1:decide ((5:Int)≤(s.groups:Int))=true:=by rw [decide_eq_true_eq];omega
      go_enter Tryz.func54,Tryz.ntmps54
      go_wp2_with fail
      (with_reducible refine (must_ok _).mono ?_)
      rintro e w1 ⟨rfl,rfl⟩
      go_wp2_with fail
      obtain ⟨OA,on,oc,hov,hct⟩:=contains_any L0.out.pa 5 (5:Int) rfl
      have HOV:=Lib.hid hov
      subst hov
      (with_reducible refine hct.mono ?_)
      rintro e w1 ⟨rfl,hw⟩
      have hw:=hw.symm
      subst hw
      clear hct
      by_cases c2:5 ∈ s.op
      ·have hV:R=none:=by rw [HV.out,if_neg (fun h=>h.2 c2)]
       have d2:decide (5 ∈ s.op)=true:=by rw [decide_eq_true_eq];exact c2
       rw [d2]
       go_wp2_with fail
       (with_reducible refine (must_no _).mono ?_)
       rintro e w1 ⟨rfl,rfl⟩
       subst hV
       exact ⟨rfl,rfl,L0.out.chg.mono fun b _ e=>.inl e⟩
      ·have d2:decide (5 ∈ s.op)=false:=by rw [decide_eq_false_iff_not];exact c2
       rw [d2]
       have HV2:Hid (R=(node1 { s with left:=l,refs:=true }).map fun s=>((refN 5,.nil),s)):=Lib.hid (by rw [HV.out,if_pos ⟨c1,c2⟩])
       go_wp2_with fail
       (with_reducible refine (must_ok _).mono ?_)
       rintro e w1 ⟨rfl,rfl⟩
       have hPL:=(H.out.setLeft l hln.out (tx l) rfl).setRefs true
       have L2:Hid (Laid base g tv (.slice OA on oc) w { s with left:=l,refs:=true } (((w.setCell ⟨g,0,none⟩ (.string (tx l))).setCell ⟨g,4,none⟩ (.bool true)).alloc (.cells zN 95))):=Lib.hid
        ⟨hPL.grows ((Grows.refl _).alloc _),((chg_cell w g 0 _).trans (chg_cell _ g 4 _)).trans (Chg.of_grows ((Grows.refl _).alloc _)),by simp,blk_alloc_at _ _ _ _ (by simp)⟩
       clear hPL
       go_wp2_with fail
       generalize ((w.setCell ⟨g,0,none⟩ (.string (tx l))).setCell ⟨g,4,none⟩ (.bool true)).alloc (.cells zN 95)=w1 at *
       by_cases hp:s.parts+1≤200
       ·have hV:R=some ((refN 5,.nil),{ s with left:=l,refs:=true,parts:=s.parts+1 }):=by rw [HV2.out];unfold node1;rw [if_pos hp];rfl
        (with_reducible refine (node_ok L2.out.pa hp 6 0 noSet (5:Int) 0 0 none 0 0).mono ?_)
        rintro e w2 ⟨rfl,hP,hC⟩
        obtain ⟨hb2,hC2⟩:=L2.out.step hgl hP hC
        have i2:InHeap w.heap.size w2:=Blk.inHeap hb2 (by simp [ndA_size])
        have HP:=Lib.hid hP
        have HC:=Lib.hid hC2
        clear hP hC hC2
        go_wp2_with fail
        subst hV
        exact bodyPost_ret (results_node 2 rfl rfl (Blk.get _ hb2 (by simp [ndA_size])) (ndA_size _ _ _ _ _ _ _)) rfl (leaf_ret H.out HP.out HC.out (refN 5))
       ·have hV:R=none:=by rw [HV2.out];unfold node1;rw [if_neg hp];rfl
        (with_reducible refine (node_no L2.out.pa hp _ (ndA_one_slice _ _ _ _ _ _ _ _ _) (ndA_size _ _ _ _ _ _ _)).mono ?_)
        rintro e w2 ⟨rfl,hC⟩
        subst hV
        exact ⟨rfl,rfl,(L2.out.chg.trans hC).mono fun b _ e=>.inl e⟩
     ·have d1:decide ((5:Int)≤(s.groups:Int))=false:=by rw [decide_eq_false_iff_not];omega
      have hV:R=none:=by rw [HV.out,if_neg (fun h=>c1 h.1)]
      go_enter Tryz.func54,Tryz.ntmps54
      go_wp2_with fail
      (with_reducible refine (must_ok _).mono ?_)
      rintro e w1 ⟨rfl,rfl⟩
      go_wp2_with fail
      (with_reducible refine (must_no _).mono ?_)
      rintro e w1 ⟨rfl,rfl⟩
      subst hV
      exact ⟨rfl,rfl,L0.out.chg.mono fun b _ e=>.inl e⟩
    ·have e40:((n:Int) == 40)=false:=by rw [beq_eq_false_iff_ne];omega
     have e49:((n:Int) == 49)=false:=by rw [beq_eq_false_iff_ne];omega
     have e50:((n:Int) == 50)=false:=by rw [beq_eq_false_iff_ne];omega
     have e51:((n:Int) == 51)=false:=by rw [beq_eq_false_iff_ne];omega
     have e52:((n:Int) == 52)=false:=by rw [beq_eq_false_iff_ne];omega
     have e53:((n:Int) == 53)=false:=by rw [beq_eq_false_iff_ne];omega
     have e54:((n:Int) == 54)=true:=by rw [beq_iff_eq];omega
     obtain rfl:m=6:=by omega
     by_cases c1:6≤s.groups
     ·have d1:decide ((6:Int)≤(s.groups:Int))=true:=by rw [decide_eq_true_eq];omega
      go_enter Tryz.func54,Tryz.ntmps54
      go_wp2_with fail
      (with_reducible refine (must_ok _).mono ?_)
      rintro e w1 ⟨rfl,rfl⟩
      go_wp2_with fail
      obtain ⟨OA,on,oc,hov,hct⟩:=contains_any L0.out.pa 6 (6:Int) rfl
      have HOV:=Lib.hid hov
      subst hov
      (with_reducible refine hct.mono ?_)
      rintro e w1 ⟨rfl,hw⟩
      have hw:=hw.symm
      subst hw
      clear hct
      by_cases c2:6 ∈ s.op
      ·have hV:R=none:=by rw [HV.out,if_neg (fun h=>h.2 c2)]
       have d2:decide (6 ∈ s.op)=true:=by rw [decide_eq_true_eq];exact c2
       rw [d2]
       go_wp2_with fail
       (with_reducible refine (must_no _).mono ?_)
       rintro e w1 ⟨rfl,rfl⟩
       subst hV
       exact ⟨rfl,rfl,L0.out.chg.mono fun b _ e=>.inl e⟩
      ·have d2:decide (6 ∈ s.op)=false:=by rw [decide_eq_false_iff_not];exact c2
       rw [d2]
       have HV2:Hid (R=(node1 { s with left:=l,refs:=true }).map fun s=>((refN 6,.nil),s)):=Lib.hid (by rw [HV.out,if_pos ⟨c1,c2⟩])
       go_wp2_with fail
       (with_reducible refine (must_ok _).mono ?_)
       rintro e w1 ⟨rfl,rfl⟩
       have hPL:=(H.out.setLeft l hln.out (tx l) rfl).setRefs true
       have L2:Hid (Laid base g tv (.slice OA on oc) w { s with left:=l,refs:=true } (((w.setCell ⟨g,0,none⟩ (.string (tx l))).setCell ⟨g,4,none⟩ (.bool true)).alloc (.cells zN 95))):=Lib.hid
        ⟨hPL.grows ((Grows.refl _).alloc _),((chg_cell w g 0 _).trans (chg_cell _ g 4 _)).trans (Chg.of_grows ((Grows.refl _).alloc _)),by simp,blk_alloc_at _ _ _ _ (by simp)⟩
       clear hPL
       go_wp2_with fail
       generalize ((w.setCell ⟨g,0,none⟩ (.string (tx l))).setCell ⟨g,4,none⟩ (.bool true)).alloc (.cells zN 95)=w1 at *
       by_cases hp:s.parts+1≤200
       ·have hV:R=some ((refN 6,.nil),{ s with left:=l,refs:=true,parts:=s.parts+1 }):=by rw [HV2.out];unfold node1;rw [if_pos hp];rfl
        (with_reducible refine (node_ok L2.out.pa hp 6 0 noSet (6:Int) 0 0 none 0 0).mono ?_)
        rintro e w2 ⟨rfl,hP,hC⟩
        obtain ⟨hb2,hC2⟩:=L2.out.step hgl hP hC
        have i2:InHeap w.heap.size w2:=Blk.inHeap hb2 (by simp [ndA_size])
        have HP:=Lib.hid hP
        have HC:=Lib.hid hC2
        clear hP hC hC2
        go_wp2_with fail
        subst hV
        exact bodyPost_ret (results_node 2 rfl rfl (Blk.get _ hb2 (by simp [ndA_size])) (ndA_size _ _ _ _ _ _ _)) rfl (leaf_ret H.out HP.out HC.out (refN 6))
       ·have hV:R=none:=by rw [HV2.out];unfold node1;rw [if_neg hp];rfl
        (with_reducible refine (node_no L2.out.pa hp _ (ndA_one_slice _ _ _ _ _ _ _ _ _) (ndA_size _ _ _ _ _ _ _)).mono ?_)
        rintro e w2 ⟨rfl,hC⟩
        subst hV
        exact ⟨rfl,rfl,(L2.out.chg.trans hC).mono fun b _ e=>.inl e⟩
     ·have d1:decide ((6:Int)≤(s.groups:Int))=false:=by rw [decide_eq_false_iff_not];omega
      have hV:R=none:=by rw [HV.out,if_neg (fun h=>c1 h.1)]
      go_enter Tryz.func54,Tryz.ntmps54
      go_wp2_with fail
      (with_reducible refine (must_ok _).mono ?_)
      rintro e w1 ⟨rfl,rfl⟩
      go_wp2_with fail
      (with_reducible refine (must_no _).mono ?_)
      rintro e w1 ⟨rfl,rfl⟩
      subst hV
      exact ⟨rfl,rfl,L0.out.chg.mono fun b _ e=>.inl e⟩
    ·have e40:((n:Int) == 40)=false:=by rw [beq_eq_false_iff_ne];omega
     have e49:((n:Int) == 49)=false:=by rw [beq_eq_false_iff_ne];omega
     have e50:((n:Int) == 50)=false:=by rw [beq_eq_false_iff_ne];omega
     have e51:((n:Int) == 51)=false:=by rw [beq_eq_false_iff_ne];omega
     have e52:((n:Int) == 52)=false:=by rw [beq_eq_false_iff_ne];omega
     have e53:((n:Int) == 53)=false:=by rw [beq_eq_false_iff_ne];omega
     have e54:((n:Int) == 54)=false:=by rw [beq_eq_false_iff_ne];omega
     have e55:((n:Int) == 55)=true:=by rw [beq_iff_eq];omega
     obtain rfl:m=7:=by omega
     by_cases c1:7≤s.groups
     ·have d1:decide ((7:Int)≤(s.groups:Int))=true:=by rw [decide_eq_true_eq];omega
      go_enter Tryz.func54,Tryz.ntmps54
      go_wp2_with fail
      (with_reducible refine (must_ok _).mono ?_)
      rintro e w1 ⟨rfl,rfl⟩
      go_wp2_with fail
      obtain ⟨OA,on,oc,hov,hct⟩:=contains_any L0.out.pa 7 (7:Int) rfl
      have HOV:=Lib.hid hov
      subst hov
      (with_reducible refine hct.mono ?_)
      rintro e w1 ⟨rfl,hw⟩
      have hw:=hw.symm
      subst hw
      clear hct
      by_cases c2:7 ∈ s.op
      ·have hV:R=none:=by rw [HV.out,if_neg (fun h=>h.2 c2)]
       have d2:decide (7 ∈ s.op)=true:=by rw [decide_eq_true_eq];exact c2
       rw [d2]
       go_wp2_with fail
       (with_reducible refine (must_no _).mono ?_)
       rintro e w1 ⟨rfl,rfl⟩
       subst hV
       exact ⟨rfl,rfl,L0.out.chg.mono fun b _ e=>.inl e⟩
      ·have d2:decide (7 ∈ s.op)=false:=by rw [decide_eq_false_iff_not];exact c2
       rw [d2]
       have HV2:Hid (R=(node1 { s with left:=l,refs:=true }).map fun s=>((refN 7,.nil),s)):=Lib.hid (by rw [HV.out,if_pos ⟨c1,c2⟩])
       go_wp2_with fail
       (with_reducible refine (must_ok _).mono ?_)
       rintro e w1 ⟨rfl,rfl⟩
       have hPL:=(H.out.setLeft l hln.out (tx l) rfl).setRefs true
       have L2:Hid (Laid base g tv (.slice OA on oc) w { s with left:=l,refs:=true } (((w.setCell ⟨g,0,none⟩ (.string (tx l))).setCell ⟨g,4,none⟩ (.bool true)).alloc (.cells zN 95))):=Lib.hid
        ⟨hPL.grows ((Grows.refl _).alloc _),((chg_cell w g 0 _).trans (chg_cell _ g 4 _)).trans (Chg.of_grows ((Grows.refl _).alloc _)),by simp,blk_alloc_at _ _ _ _ (by simp)⟩
       clear hPL
       go_wp2_with fail
       generalize ((w.setCell ⟨g,0,none⟩ (.string (tx l))).setCell ⟨g,4,none⟩ (.bool true)).alloc (.cells zN 95)=w1 at *
       by_cases hp:s.parts+1≤200
       ·have hV:R=some ((refN 7,.nil),{ s with left:=l,refs:=true,parts:=s.parts+1 }):=by rw [HV2.out];unfold node1;rw [if_pos hp];rfl
        (with_reducible refine (node_ok L2.out.pa hp 6 0 noSet (7:Int) 0 0 none 0 0).mono ?_)
        rintro e w2 ⟨rfl,hP,hC⟩
        obtain ⟨hb2,hC2⟩:=L2.out.step hgl hP hC
        have i2:InHeap w.heap.size w2:=Blk.inHeap hb2 (by simp [ndA_size])
        have HP:=Lib.hid hP
        have HC:=Lib.hid hC2
        clear hP hC hC2
        go_wp2_with fail
        subst hV
        exact bodyPost_ret (results_node 2 rfl rfl (Blk.get _ hb2 (by simp [ndA_size])) (ndA_size _ _ _ _ _ _ _)) rfl (leaf_ret H.out HP.out HC.out (refN 7))
       ·have hV:R=none:=by rw [HV2.out];unfold node1;rw [if_neg hp];rfl
        (with_reducible refine (node_no L2.out.pa hp _ (ndA_one_slice _ _ _ _ _ _ _ _ _) (ndA_size _ _ _ _ _ _ _)).mono ?_)
        rintro e w2 ⟨rfl,hC⟩
        subst hV
        exact ⟨rfl,rfl,(L2.out.chg.trans hC).mono fun b _ e=>.inl e⟩
     ·have d1:decide ((7:Int)≤(s.groups:Int))=false:=by rw [decide_eq_false_iff_not];omega
      have hV:R=none:=by rw [HV.out,if_neg (fun h=>c1 h.1)]
      go_enter Tryz.func54,Tryz.ntmps54
      go_wp2_with fail
      (with_reducible refine (must_ok _).mono ?_)
      rintro e w1 ⟨rfl,rfl⟩
      go_wp2_with fail
      (with_reducible refine (must_no _).mono ?_)
      rintro e w1 ⟨rfl,rfl⟩
      subst hV
      exact ⟨rfl,rfl,L0.out.chg.mono fun b _ e=>.inl e⟩
    ·have e40:((n:Int) == 40)=false:=by rw [beq_eq_false_iff_ne];omega
     have e49:((n:Int) == 49)=false:=by rw [beq_eq_false_iff_ne];omega
     have e50:((n:Int) == 50)=false:=by rw [beq_eq_false_iff_ne];omega
     have e51:((n:Int) == 51)=false:=by rw [beq_eq_false_iff_ne];omega
     have e52:((n:Int) == 52)=false:=by rw [beq_eq_false_iff_ne];omega
     have e53:((n:Int) == 53)=false:=by rw [beq_eq_false_iff_ne];omega
     have e54:((n:Int) == 54)=false:=by rw [beq_eq_false_iff_ne];omega
     have e55:((n:Int) == 55)=false:=by rw [beq_eq_false_iff_ne];omega
     have e56:((n:Int) == 56)=true:=by rw [beq_iff_eq];omega
     obtain rfl:m=8:=by omega
     by_cases c1:8≤s.groups
     ·have d1:decide ((8:Int)≤(s.groups:Int))=true:=by rw [decide_eq_true_eq];omega
      go_enter Tryz.func54,Tryz.ntmps54
      go_wp2_with fail
      (with_reducible refine (must_ok _).mono ?_)
      rintro e w1 ⟨rfl,rfl⟩
      go_wp2_with fail
      obtain ⟨OA,on,oc,hov,hct⟩:=contains_any L0.out.pa 8 (8:Int) rfl
      have HOV:=Lib.hid hov
      subst hov
      (with_reducible refine hct.mono ?_)
      rintro e w1 ⟨rfl,hw⟩
      have hw:=hw.symm
      subst hw
      clear hct
      by_cases c2:8 ∈ s.op
      ·have hV:R=none:=by rw [HV.out,if_neg (fun h=>h.2 c2)]
       have d2:decide (8 ∈ s.op)=true:=by rw [decide_eq_true_eq];exact c2
       rw [d2]
       go_wp2_with fail
       (with_reducible refine (must_no _).mono ?_)
       rintro e w1 ⟨rfl,rfl⟩
       subst hV
       exact ⟨rfl,rfl,L0.out.chg.mono fun b _ e=>.inl e⟩
      ·have d2:decide (8 ∈ s.op)=false:=by rw [decide_eq_false_iff_not];exact c2
       rw [d2]
       have HV2:Hid (R=(node1 { s with left:=l,refs:=true }).map fun s=>((refN 8,.nil),s)):=Lib.hid (by rw [HV.out,if_pos ⟨c1,c2⟩])
       go_wp2_with fail
       (with_reducible refine (must_ok _).mono ?_)
       rintro e w1 ⟨rfl,rfl⟩
       have hPL:=(H.out.setLeft l hln.out (tx l) rfl).setRefs true
       have L2:Hid (Laid base g tv (.slice OA on oc) w { s with left:=l,refs:=true } (((w.setCell ⟨g,0,none⟩ (.string (tx l))).setCell ⟨g,4,none⟩ (.bool true)).alloc (.cells zN 95))):=Lib.hid
        ⟨hPL.grows ((Grows.refl _).alloc _),((chg_cell w g 0 _).trans (chg_cell _ g 4 _)).trans (Chg.of_grows ((Grows.refl _).alloc _)),by simp,blk_alloc_at _ _ _ _ (by simp)⟩
       clear hPL
       go_wp2_with fail
       generalize ((w.setCell ⟨g,0,none⟩ (.string (tx l))).setCell ⟨g,4,none⟩ (.bool true)).alloc (.cells zN 95)=w1 at *
       by_cases hp:s.parts+1≤200
       ·have hV:R=some ((refN 8,.nil),{ s with left:=l,refs:=true,parts:=s.parts+1 }):=by rw [HV2.out];unfold node1;rw [if_pos hp];rfl
        (with_reducible refine (node_ok L2.out.pa hp 6 0 noSet (8:Int) 0 0 none 0 0).mono ?_)
        rintro e w2 ⟨rfl,hP,hC⟩
        obtain ⟨hb2,hC2⟩:=L2.out.step hgl hP hC
        have i2:InHeap w.heap.size w2:=Blk.inHeap hb2 (by simp [ndA_size])
        have HP:=Lib.hid hP
        have HC:=Lib.hid hC2
        clear hP hC hC2
        go_wp2_with fail
        subst hV
        exact bodyPost_ret (results_node 2 rfl rfl (Blk.get _ hb2 (by simp [ndA_size])) (ndA_size _ _ _ _ _ _ _)) rfl (leaf_ret H.out HP.out HC.out (refN 8))
       ·have hV:R=none:=by rw [HV2.out];unfold node1;rw [if_neg hp];rfl
        (with_reducible refine (node_no L2.out.pa hp _ (ndA_one_slice _ _ _ _ _ _ _ _ _) (ndA_size _ _ _ _ _ _ _)).mono ?_)
        rintro e w2 ⟨rfl,hC⟩
        subst hV
        exact ⟨rfl,rfl,(L2.out.chg.trans hC).mono fun b _ e=>.inl e⟩
     ·have d1:decide ((8:Int)≤(s.groups:Int))=false:=by rw [decide_eq_false_iff_not];omega
      have hV:R=none:=by rw [HV.out,if_neg (fun h=>c1 h.1)]
      go_enter Tryz.func54,Tryz.ntmps54
      go_wp2_with fail
      (with_reducible refine (must_ok _).mono ?_)
      rintro e w1 ⟨rfl,rfl⟩
      go_wp2_with fail
      (with_reducible refine (must_no _).mono ?_)
      rintro e w1 ⟨rfl,rfl⟩
      subst hV
      exact ⟨rfl,rfl,L0.out.chg.mono fun b _ e=>.inl e⟩
    ·have e40:((n:Int) == 40)=false:=by rw [beq_eq_false_iff_ne];omega
     have e49:((n:Int) == 49)=false:=by rw [beq_eq_false_iff_ne];omega
     have e50:((n:Int) == 50)=false:=by rw [beq_eq_false_iff_ne];omega
     have e51:((n:Int) == 51)=false:=by rw [beq_eq_false_iff_ne];omega
     have e52:((n:Int) == 52)=false:=by rw [beq_eq_false_iff_ne];omega
     have e53:((n:Int) == 53)=false:=by rw [beq_eq_false_iff_ne];omega
     have e54:((n:Int) == 54)=false:=by rw [beq_eq_false_iff_ne];omega
     have e55:((n:Int) == 55)=false:=by rw [beq_eq_false_iff_ne];omega
     have e56:((n:Int) == 56)=false:=by rw [beq_eq_false_iff_ne];omega
     have e57:((n:Int) == 57)=true:=by rw [beq_iff_eq];omega
     obtain rfl:m=9:=by omega
     by_cases c1:9≤s.groups
     ·have d1:decide ((9:Int)≤(s.groups:Int))=true:=by rw [decide_eq_true_eq];omega
      go_enter Tryz.func54,Tryz.ntmps54
      go_wp2_with fail
      (with_reducible refine (must_ok _).mono ?_)
      rintro e w1 ⟨rfl,rfl⟩
      go_wp2_with fail
      obtain ⟨OA,on,oc,hov,hct⟩:=contains_any L0.out.pa 9 (9:Int) rfl
      have HOV:=Lib.hid hov
      subst hov
      (with_reducible refine hct.mono ?_)
      rintro e w1 ⟨rfl,hw⟩
      have hw:=hw.symm
      subst hw
      clear hct
      by_cases c2:9 ∈ s.op
      ·have hV:R=none:=by rw [HV.out,if_neg (fun h=>h.2 c2)]
       have d2:decide (9 ∈ s.op)=true:=by rw [decide_eq_true_eq];exact c2
       rw [d2]
       go_wp2_with fail
       (with_reducible refine (must_no _).mono ?_)
       rintro e w1 ⟨rfl,rfl⟩
       subst hV
       exact ⟨rfl,rfl,L0.out.chg.mono fun b _ e=>.inl e⟩
      ·have d2:decide (9 ∈ s.op)=false:=by rw [decide_eq_false_iff_not];exact c2
       rw [d2]
       have HV2:Hid (R=(node1 { s with left:=l,refs:=true }).map fun s=>((refN 9,.nil),s)):=Lib.hid (by rw [HV.out,if_pos ⟨c1,c2⟩])
       go_wp2_with fail
       (with_reducible refine (must_ok _).mono ?_)
       rintro e w1 ⟨rfl,rfl⟩
       have hPL:=(H.out.setLeft l hln.out (tx l) rfl).setRefs true
       have L2:Hid (Laid base g tv (.slice OA on oc) w { s with left:=l,refs:=true } (((w.setCell ⟨g,0,none⟩ (.string (tx l))).setCell ⟨g,4,none⟩ (.bool true)).alloc (.cells zN 95))):=Lib.hid
        ⟨hPL.grows ((Grows.refl _).alloc _),((chg_cell w g 0 _).trans (chg_cell _ g 4 _)).trans (Chg.of_grows ((Grows.refl _).alloc _)),by simp,blk_alloc_at _ _ _ _ (by simp)⟩
       clear hPL
       go_wp2_with fail
       generalize ((w.setCell ⟨g,0,none⟩ (.string (tx l))).setCell ⟨g,4,none⟩ (.bool true)).alloc (.cells zN 95)=w1 at *
       by_cases hp:s.parts+1≤200
       ·have hV:R=some ((refN 9,.nil),{ s with left:=l,refs:=true,parts:=s.parts+1 }):=by rw [HV2.out];unfold node1;rw [if_pos hp];rfl
        (with_reducible refine (node_ok L2.out.pa hp 6 0 noSet (9:Int) 0 0 none 0 0).mono ?_)
        rintro e w2 ⟨rfl,hP,hC⟩
        obtain ⟨hb2,hC2⟩:=L2.out.step hgl hP hC
        have i2:InHeap w.heap.size w2:=Blk.inHeap hb2 (by simp [ndA_size])
        have HP:=Lib.hid hP
        have HC:=Lib.hid hC2
        clear hP hC hC2
        go_wp2_with fail
        subst hV
        exact bodyPost_ret (results_node 2 rfl rfl (Blk.get _ hb2 (by simp [ndA_size])) (ndA_size _ _ _ _ _ _ _)) rfl (leaf_ret H.out HP.out HC.out (refN 9))
       ·have hV:R=none:=by rw [HV2.out];unfold node1;rw [if_neg hp];rfl
        (with_reducible refine (node_no L2.out.pa hp _ (ndA_one_slice _ _ _ _ _ _ _ _ _) (ndA_size _ _ _ _ _ _ _)).mono ?_)
        rintro e w2 ⟨rfl,hC⟩
        subst hV
        exact ⟨rfl,rfl,(L2.out.chg.trans hC).mono fun b _ e=>.inl e⟩
     ·have d1:decide ((9:Int)≤(s.groups:Int))=false:=by rw [decide_eq_false_iff_not];omega
      have hV:R=none:=by rw [HV.out,if_neg (fun h=>c1 h.1)]
      go_enter Tryz.func54,Tryz.ntmps54
      go_wp2_with fail
      (with_reducible refine (must_ok _).mono ?_)
      rintro e w1 ⟨rfl,rfl⟩
      go_wp2_with fail
      (with_reducible refine (must_no _).mono ?_)
      rintro e w1 ⟨rfl,rfl⟩
      subst hV
      exact ⟨rfl,rfl,L0.out.chg.mono fun b _ e=>.inl e⟩
   ·rw [if_neg kd] at hV
    by_cases kb:n=123∨n=125∨n=41
    ·rw [if_pos kb] at hV
     have HV:=Lib.hid hV
     clear hV
     rcases kb with kk | kk | kk
     ·have e40:((n:Int) == 40)=false:=by rw [beq_eq_false_iff_ne];omega
      have e49:((n:Int) == 49)=false:=by rw [beq_eq_false_iff_ne];omega
      have e50:((n:Int) == 50)=false:=by rw [beq_eq_false_iff_ne];omega
      have e51:((n:Int) == 51)=false:=by rw [beq_eq_false_iff_ne];omega
      have e52:((n:Int) == 52)=false:=by rw [beq_eq_false_iff_ne];omega
      have e53:((n:Int) == 53)=false:=by rw [beq_eq_false_iff_ne];omega
      have e54:((n:Int) == 54)=false:=by rw [beq_eq_false_iff_ne];omega
      have e55:((n:Int) == 55)=false:=by rw [beq_eq_false_iff_ne];omega
      have e56:((n:Int) == 56)=false:=by rw [beq_eq_false_iff_ne];omega
      have e57:((n:Int) == 57)=false:=by rw [beq_eq_false_iff_ne];omega
      have e123:((n:Int) == 123)=true:=by rw [beq_iff_eq];omega
      have hV:R=none:=HV.out
      go_enter Tryz.func54,Tryz.ntmps54
      go_wp2_with fail
      (with_reducible refine (must_ok _).mono ?_)
      rintro e w1 ⟨rfl,rfl⟩
      subst hV
      go_wp2_with fail
      exact ⟨rfl,rfl,L0.out.chg.mono fun b _ e=>.inl e⟩
     ·have e40:((n:Int) == 40)=false:=by rw [beq_eq_false_iff_ne];omega
      have e49:((n:Int) == 49)=false:=by rw [beq_eq_false_iff_ne];omega
      have e50:((n:Int) == 50)=false:=by rw [beq_eq_false_iff_ne];omega
      have e51:((n:Int) == 51)=false:=by rw [beq_eq_false_iff_ne];omega
      have e52:((n:Int) == 52)=false:=by rw [beq_eq_false_iff_ne];omega
      have e53:((n:Int) == 53)=false:=by rw [beq_eq_false_iff_ne];omega
      have e54:((n:Int) == 54)=false:=by rw [beq_eq_false_iff_ne];omega
      have e55:((n:Int) == 55)=false:=by rw [beq_eq_false_iff_ne];omega
      have e56:((n:Int) == 56)=false:=by rw [beq_eq_false_iff_ne];omega
      have e57:((n:Int) == 57)=false:=by rw [beq_eq_false_iff_ne];omega
      have e123:((n:Int) == 123)=false:=by rw [beq_eq_false_iff_ne];omega
      have e125:((n:Int) == 125)=true:=by rw [beq_iff_eq];omega
      have hV:R=none:=HV.out
      go_enter Tryz.func54,Tryz.ntmps54
      go_wp2_with fail
      (with_reducible refine (must_ok _).mono ?_)
      rintro e w1 ⟨rfl,rfl⟩
      subst hV
      go_wp2_with fail
      exact ⟨rfl,rfl,L0.out.chg.mono fun b _ e=>.inl e⟩
     ·have e40:((n:Int) == 40)=false:=by rw [beq_eq_false_iff_ne];omega
      have e49:((n:Int) == 49)=false:=by rw [beq_eq_false_iff_ne];omega
      have e50:((n:Int) == 50)=false:=by rw [beq_eq_false_iff_ne];omega
      have e51:((n:Int) == 51)=false:=by rw [beq_eq_false_iff_ne];omega
      have e52:((n:Int) == 52)=false:=by rw [beq_eq_false_iff_ne];omega
      have e53:((n:Int) == 53)=false:=by rw [beq_eq_false_iff_ne];omega
      have e54:((n:Int) == 54)=false:=by rw [beq_eq_false_iff_ne];omega
      have e55:((n:Int) == 55)=false:=by rw [beq_eq_false_iff_ne];omega
      have e56:((n:Int) == 56)=false:=by rw [beq_eq_false_iff_ne];omega
      have e57:((n:Int) == 57)=false:=by rw [beq_eq_false_iff_ne];omega
      have e123:((n:Int) == 123)=false:=by rw [beq_eq_false_iff_ne];omega
      have e125:((n:Int) == 125)=false:=by rw [beq_eq_false_iff_ne];omega
      have e41:((n:Int) == 41)=true:=by rw [beq_iff_eq];omega
      have hV:R=none:=HV.out
      go_enter Tryz.func54,Tryz.ntmps54
      go_wp2_with fail
      (with_reducible refine (must_ok _).mono ?_)
      rintro e w1 ⟨rfl,rfl⟩
      subst hV
      go_wp2_with fail
      exact ⟨rfl,rfl,L0.out.chg.mono fun b _ e=>.inl e⟩
    ·rw [if_neg kb] at hV
     have HV:=Lib.hid hV
     clear hV
     have e40:((n:Int) == 40)=false:=by rw [beq_eq_false_iff_ne];omega
     have e49:((n:Int) == 49)=false:=by rw [beq_eq_false_iff_ne];omega
     have e50:((n:Int) == 50)=false:=by rw [beq_eq_false_iff_ne];omega
     have e51:((n:Int) == 51)=false:=by rw [beq_eq_false_iff_ne];omega
     have e52:((n:Int) == 52)=false:=by rw [beq_eq_false_iff_ne];omega
     have e53:((n:Int) == 53)=false:=by rw [beq_eq_false_iff_ne];omega
     have e54:((n:Int) == 54)=false:=by rw [beq_eq_false_iff_ne];omega
     have e55:((n:Int) == 55)=false:=by rw [beq_eq_false_iff_ne];omega
     have e56:((n:Int) == 56)=false:=by rw [beq_eq_false_iff_ne];omega
     have e57:((n:Int) == 57)=false:=by rw [beq_eq_false_iff_ne];omega
     have e123:((n:Int) == 123)=false:=by rw [beq_eq_false_iff_ne];omega
     have e125:((n:Int) == 125)=false:=by rw [beq_eq_false_iff_ne];omega
     have e41:((n:Int) == 41)=false:=by rw [beq_eq_false_iff_ne];omega
     go_enter Tryz.func54,Tryz.ntmps54
     go_wp2_with fail
     (with_reducible refine (must_ok _).mono ?_)
     rintro e w1 ⟨rfl,rfl⟩
     go_wp2_with fail
     have hcall:=self_any L0.out.pa c l HLE.out
     rw [hn,← HV.out] at hcall
     generalize w.alloc (.cells zN 95)=w1 at *
     cases R with
     | none =>
      refine hcall.mono ?_
      rintro e w2 ⟨rfl,hc⟩
      exact ⟨rfl,rfl,(L0.out.chg.mono fun b _ e=>.inl e).trans hc⟩
     | some y =>
      refine hcall.mono ?_
      intro e w2 hp
      obtain ⟨A,cap,ov',rfl,hb2,hfin⟩:=nk_got H.out L0.out.chg L0.out.size L0.out.res hp
      have i2:InHeap w.heap.size w2:=Blk.inHeap hb2 (by simp [ndA_size])
      have HF:=Lib.hid hfin
      clear hfin hp hcall
      go_wp2_with fail
      obtain ⟨n1,n2,n3⟩:=HF.out (ndC y.1.1 (.slice A y.1.2.len cap))
      exact bodyPost_ret (results_node 2 rfl rfl (Blk.get _ hb2 (by simp [ndA_size])) (ndA_size _ _ _ _ _ _ _)) rfl ⟨_,_,rfl,n1,n2,n3⟩
end
end Go.Proofs.YtnjagecmhdagkaaGreatDoor
