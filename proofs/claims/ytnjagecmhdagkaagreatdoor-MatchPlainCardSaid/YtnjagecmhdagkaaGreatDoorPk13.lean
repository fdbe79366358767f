/-
 Several texts of the proof: BrePart, BreRowM.
-/
import Derived.Test.YtnjagecmhdagkaaGreatDoorPk12
set_option linter.unusedSimpArgs false
set_option linter.unusedVariables false
set_option maxRecDepth 3000
/-
  Patterns: a part, walked, if a row is.
-/
namespace Go.Proofs.YtnjagecmhdagkaaGreatDoor
open Go.RowKit
attribute [local go_sem ↓] zeroNode bldNd_eq ldNode_eq stNode_eq bldSl_eq zero22
attribute [local go_sem] bld_kind bld_byte bld_set bld_n bld_star bld_times loadNode loadNode_if storeNode storeNode_if ndA_one_slice ndA_0 ndA_258 ndA_261 tx_bt tx_from bldSl_run
theorem loopV_head (n:Nat):∀ {f:Bool} {p:Nat→Bool} {s:List UInt8} {x:(Nat→Bool) × List UInt8},loopV n f p s=some x→x.2.head?=some 93∧x.2.length≤s.length:=by
 induction n with
 | zero=>intro f p s x h;cases h
 | succ n ih =>
  intro f p s x h
  unfold loopV at h
  split at h
  ·rename_i hc
   injection h with h
   subst h
   exact ⟨hc.2,Nat.le_refl _⟩
  ·rw [Option.bind_eq_some_iff] at h
   obtain ⟨y,hy,h⟩:=h
   have h1:=ih h
   have h2:=partV_len hy
   exact ⟨h1.1,by omega⟩
theorem parseV_le {t:List UInt8} {x:(Nat→Bool) × Nat} (h:parseV t=some x):x.2≤t.length:=by
 have key:∀ {f:Bool} {p:Nat→Bool} {r:List UInt8} {y:(Nat→Bool) × List UInt8},loopF f p r=some y→r.length≤t.length→t.length - y.2.length+1≤t.length:=by
  intro f p r y hy hr
  obtain ⟨h1,h2⟩:=loopV_head _ hy
  cases hq:y.2 with
  | nil=>rw [hq] at h1;cases h1
  | cons a b=>rw [hq] at h2;simp at h2 ⊢;omega
 unfold parseV at h
 split at h
 ·split at h
  ·rw [Option.map_eq_some_iff] at h
   obtain ⟨y,hy,rfl⟩:=h
   exact key hy (by simp)
  ·rw [Option.map_eq_some_iff] at h
   obtain ⟨y,hy,rfl⟩:=h
   exact key hy (by simp)
 ·cases h
theorem parseA_zero {t:List UInt8} (h:t≠[]):parseA t 0=match parseV t with
  | some x=>(x.1,(x.2:Int),0)
  | none=>(fun _=>false,0,90):=by
 have h2:=parseA_in (s:=t) (k:=0) (List.length_pos_iff.2 h)
 rw [List.drop_zero] at h2
 have h3:parseA t ((0:Nat):Int)=parseA t 0:=rfl
 rw [h3] at h2
 rw [h2]
 cases parseV t with
 | none=>rfl
 | some x=>simp
section
variable {base g:Nat} {w w' w1 w2:World} {tv ov:Value} {s t:PS} {y:Nk × PS} {e:Ending}
theorem cut_tx (l:List UInt8) (k:Nat):(tx l).extract k l.length=tx (l.drop k):=tx_from l k
set_option maxHeartbeats 4000000 in
theorem part_of (h:Pa base w g tv ov s) (hsn:SaneB base w) (first begun:Bool) (c:UInt8) (l:List UInt8) (hl:s.left=c::l) (hrow:∀ t:PS,t.left.length < s.left.length→RowSpec tv t) :
  Calls Tryz.prog 34 #[.pointer (some ⟨g,0,none⟩),.bool first,.bool begun] w (NkPost base g tv ov w (partF first begun s)):=by
 have ig:=h.inh
 have hgl:g < w.heap.size:=ig
 obtain ⟨q0,-⟩:=h.six
 have ff:=h.free
 have H:=Lib.hid h
 obtain ⟨R,hR⟩:∃ R,partF first begun s=R:=⟨_,rfl⟩
 have hV:R=(if c.toNat=92 then slashV (rowF true false) { s with left:=l }
  else if c.toNat=91 then (parseV (c::l)).bind fun y=>(node1 { s with left:=(c::l).drop y.2 }).map fun s=>((setN y.1,.nil),s)
  else if c.toNat=46 then (node1 { s with left:=l }).map fun s=>((ndK 2,.nil),s)
  else if c.toNat=94∧first=true then (node1 { s with left:=l }).map fun s=>((ndK 4,.nil),s)
  else if c.toNat=36∧(l=[]∨ahead [92,41] l=true) then (node1 { s with left:=l }).map fun s=>((ndK 5,.nil),s)
  else if c.toNat=42∧first=false∧begun=false then none
  else selfV c.toNat { s with left:=l }):=by rw [← hR];unfold partF partW;rw [hl]
 rw [hR]
 have HW:=Lib.hid hrow
 have HSN:=Lib.hid hsn
 have hlen:=h.left
 have hx:=tail_tx c l
 have hln:l.length≤s.left.length:=by rw [hl];simp
 have L1:=Lib.hid (laid_left h l hln)
 have L0:=Lib.hid (laid_same h)
 have HLE:=Lib.hid hl
 rw [hl] at q0 hlen
 clear h hR hrow hl hsn
 have hlnH:=Lib.hid hln
 clear hln
 obtain ⟨n,hn⟩:∃ n,c.toNat=n:=⟨_,rfl⟩
 rw [hn] at hV
 by_cases k92:n=92
 ·rw [if_pos k92] at hV
  have HV:=Lib.hid hV
  clear hV
  have e92:((n:Int) == 92)=true:=by rw [beq_iff_eq];omega
  go_enter Tryz.func34,Tryz.ntmps34
  go_wp2_with fail
  have hcall:=slash_of L1.out.pa (HSN.out.chg L1.out.chg fun b e=>e ▸ H.out.low) (fun t ht=>HW.out t (by have:=hlnH.out;rw [HLE.out];simp at ht ⊢;omega))
  rw [← HV.out] at hcall
  generalize (w.setCell ⟨g,0,none⟩ (.string (tx l))).alloc (.cells zN 95)=w1 at *
  cases R with
  | none =>
   refine hcall.mono ?_
   rintro e w2 ⟨rfl,hc⟩
   exact ⟨rfl,rfl,(L1.out.chg.mono fun b _ e=>.inl e).trans hc⟩
  | some y =>
   refine hcall.mono ?_
   intro e w2 hp
   obtain ⟨A,cap,ov',rfl,hb2,hfin⟩:=nk_got H.out L1.out.chg L1.out.size L1.out.res hp
   have i2:InHeap w.heap.size w2:=Blk.inHeap hb2 (by simp [ndA_size])
   have HF:=Lib.hid hfin
   clear hfin hp hcall
   go_wp2_with fail
   obtain ⟨n1,n2,n3⟩:=HF.out (ndC y.1.1 (.slice A y.1.2.len cap))
   exact bodyPost_ret (results_node 6 rfl rfl (Blk.get _ hb2 (by simp [ndA_size])) (ndA_size _ _ _ _ _ _ _)) rfl ⟨_,_,rfl,n1,n2,n3⟩
 rw [if_neg k92] at hV
 by_cases k91:n=91
 ·rw [if_pos k91] at hV
  have HV:=Lib.hid hV
  clear hV
  have e92:((n:Int) == 92)=false:=by rw [beq_eq_false_iff_ne];omega
  have e91:((n:Int) == 91)=true:=by rw [beq_iff_eq];omega
  go_enter Tryz.func34,Tryz.ntmps34
  go_wp2_with fail
  have hpa:=parse_any (c::l) 0 (w.alloc (.cells zN 95)) hlen (HSN.out.chg L0.out.chg fun b e=>e ▸ H.out.low).1 ⟨by decide,by decide⟩
  rw [parseA_zero (List.cons_ne_nil _ _)] at hpa
  cases hpv:parseV (c::l) with
  | none =>
   rw [hpv] at hpa
   have hV:R=none:=by rw [HV.out,hpv];rfl
   (with_reducible refine hpa.mono ?_)
   rintro e w2 ⟨rfl,hg⟩
   clear hpa
   go_wp2_with fail
   (with_reducible refine (must_no _).mono ?_)
   rintro e w3 ⟨rfl,rfl⟩
   subst hV
   exact ⟨rfl,rfl,(L0.out.chg.trans (Chg.of_grows (hg.trans (by repeat' first | exact Grows.refl _ | refine Grows.more ?_ _ | refine Grows.alloc ?_ _ | refine Grows.drew ?_ | refine Grows.drewN ?_ _)))).mono fun b _ e=>.inl e⟩
  | some y =>
   obtain ⟨p,k⟩:=y
   rw [hpv] at hpa
   have hk:=parseV_le hpv
   have hkl:(k:Int)≤((c::l).length:Int):=by simp at hk ⊢;omega
   have hcut:(tx (c::l)).extract k (l.length+1)=tx ((c::l).drop k):=by have:=cut_tx (c::l) k;simpa using this
   have HV2:Hid (R=(node1 { s with left:=(c::l).drop k }).map fun s=>((setN p,.nil),s)):=Lib.hid (by rw [HV.out,hpv];rfl)
   (with_reducible refine hpa.mono ?_)
   rintro e w2 ⟨rfl,hg⟩
   clear hpa
   have P2:=Lib.hid (L0.out.pa.grows hg)
   have C2:=Lib.hid (L0.out.chg.trans (Chg.of_grows hg))
   have hb2:blk w2 w.heap.size=zN:=by obtain ⟨m,rfl⟩:=hg;rw [blk_more _ _ _ L0.out.inr];exact L0.out.res
   have i2:=P2.out.inh
   have f2:=P2.out.free
   obtain ⟨z0,-⟩:=P2.out.six
   rw [HLE.out] at z0
   have ir2:InHeap w.heap.size w2:=Blk.inHeap hb2 (by simp [ndA_size])
   clear hg q0
   go_wp2_with fail
   (with_reducible refine (must_ok _).mono ?_)
   rintro e w3 ⟨rfl,rfl⟩
   have hPL:=P2.out.setLeft ((c::l).drop k) (by rw [HLE.out];simp) (tx ((c::l).drop k)) rfl
   have hsz:(w2.setCell ⟨g,0,none⟩ (.string (tx ((c::l).drop k)))).heap.size=w2.heap.size:=by simp
   have P3:=Lib.hid (hPL.grows ((Grows.refl _).alloc (.cells (SA p) 89)))
   have C3:=Lib.hid ((C2.out.trans (chg_cell w2 g 0 (.string (tx ((c::l).drop k))))).trans (Chg.of_grows ((Grows.refl _).alloc (.cells (SA p) 89))))
   have hrg:¬ w.heap.size=g:=by omega
   have hb3:blk ((w2.setCell ⟨g,0,none⟩ (.string (tx ((c::l).drop k)))).alloc (.cells (SA p) 89)) w.heap.size=zN:=by
    have h1:=chg_blk (chg_cell w2 g 0 (.string (tx ((c::l).drop k)))) ir2 hrg
    rw [blk_alloc_past _ _ _ (by unfold InHeap at ir2 ⊢;rw [hsz];exact ir2),h1,hb2]
   clear hPL P2 C2 hb2 hsz
   go_wp2_with fail
   clear z0 f2 i2
   generalize (w2.setCell ⟨g,0,none⟩ (.string (tx ((c::l).drop k)))).alloc (.cells (SA p) 89)=w3 at *
   have ir3:InHeap w.heap.size w3:=Blk.inHeap hb3 (by simp [ndA_size])
   by_cases hp:s.parts+1≤200
   ·have hV:R=some ((setN p,.nil),{ s with left:=(c::l).drop k,parts:=s.parts+1 }):=by rw [HV2.out];unfold node1;rw [if_pos hp];rfl
    (with_reducible refine (node_ok P3.out hp 3 0 p 0 0 0 none 0 0).mono ?_)
    rintro e w4 ⟨rfl,hP,hC⟩
    have hb4:=(chg_blk hC ir3 hrg).trans hb3
    have i4:InHeap w.heap.size w4:=Blk.inHeap hb4 (by simp [ndA_size])
    have HP:=Lib.hid hP
    have HC:=Lib.hid (C3.out.trans hC)
    clear hP hC hb3
    go_wp2_with fail
    subst hV
    exact bodyPost_ret (results_node 6 rfl rfl (Blk.get _ hb4 (by simp [ndA_size])) (ndA_size _ _ _ _ _ _ _)) rfl (leaf_ret H.out HP.out HC.out (setN p))
   ·have hV:R=none:=by rw [HV2.out];unfold node1;rw [if_neg hp];rfl
    (with_reducible refine (node_no P3.out hp _ (ndA_one_slice _ _ _ _ _ _ _ _ _) (ndA_size _ _ _ _ _ _ _)).mono ?_)
    rintro e w4 ⟨rfl,hC⟩
    subst hV
    exact ⟨rfl,rfl,(C3.out.trans hC).mono fun b _ e=>.inl e⟩
 rw [if_neg k91] at hV
 by_cases k46:n=46
 ·rw [if_pos k46] at hV
  have HV:=Lib.hid hV
  clear hV
  have e92:((n:Int) == 92)=false:=by rw [beq_eq_false_iff_ne];omega
  have e91:((n:Int) == 91)=false:=by rw [beq_eq_false_iff_ne];omega
  have e46:((n:Int) == 46)=true:=by rw [beq_iff_eq];omega
  go_enter Tryz.func34,Tryz.ntmps34
  go_wp2_with fail
  generalize (w.setCell ⟨g,0,none⟩ (.string (tx l))).alloc (.cells zN 95)=w1 at *
  by_cases hp:s.parts+1≤200
  ·have hV:R=some ((ndK 2,.nil),{ s with left:=l,parts:=s.parts+1 }):=by rw [HV.out];unfold node1;rw [if_pos hp];rfl
   (with_reducible refine (node_ok L1.out.pa hp 2 0 noSet 0 0 0 none 0 0).mono ?_)
   rintro e w2 ⟨rfl,hP,hC⟩
   obtain ⟨hb2,hC2⟩:=L1.out.step hgl hP hC
   have i2:InHeap w.heap.size w2:=Blk.inHeap hb2 (by simp [ndA_size])
   have HP:=Lib.hid hP
   have HC:=Lib.hid hC2
   clear hP hC hC2
   go_wp2_with fail
   subst hV
   exact bodyPost_ret (results_node 6 rfl rfl (Blk.get _ hb2 (by simp [ndA_size])) (ndA_size _ _ _ _ _ _ _)) rfl (leaf_ret H.out HP.out HC.out (ndK 2))
  ·have hV:R=none:=by rw [HV.out];unfold node1;rw [if_neg hp];rfl
   (with_reducible refine (node_no L1.out.pa hp _ (ndA_one_slice _ _ _ _ _ _ _ _ _) (ndA_size _ _ _ _ _ _ _)).mono ?_)
   rintro e w2 ⟨rfl,hC⟩
   subst hV
   exact ⟨rfl,rfl,(L1.out.chg.trans hC).mono fun b _ e=>.inl e⟩
 rw [if_neg k46] at hV
 by_cases k94:n=94
 ·have k36:¬ n=36:=by omega
  have k42:¬ n=42:=by omega
  cases first with
  | true =>
   rw [if_pos ⟨k94,rfl⟩] at hV
   have HV:=Lib.hid hV
   clear hV
   have e92:((n:Int) == 92)=false:=by rw [beq_eq_false_iff_ne];omega
   have e91:((n:Int) == 91)=false:=by rw [beq_eq_false_iff_ne];omega
   have e46:((n:Int) == 46)=false:=by rw [beq_eq_false_iff_ne];omega
   have e94:((n:Int) == 94)=true:=by rw [beq_iff_eq];omega
   go_enter Tryz.func34,Tryz.ntmps34
   go_wp2_with fail
   generalize (w.setCell ⟨g,0,none⟩ (.string (tx l))).alloc (.cells zN 95)=w1 at *
   by_cases hp:s.parts+1≤200
   ·have hV:R=some ((ndK 4,.nil),{ s with left:=l,parts:=s.parts+1 }):=by rw [HV.out];unfold node1;rw [if_pos hp];rfl
    (with_reducible refine (node_ok L1.out.pa hp 4 0 noSet 0 0 0 none 0 0).mono ?_)
    rintro e w2 ⟨rfl,hP,hC⟩
    obtain ⟨hb2,hC2⟩:=L1.out.step hgl hP hC
    have i2:InHeap w.heap.size w2:=Blk.inHeap hb2 (by simp [ndA_size])
    have HP:=Lib.hid hP
    have HC:=Lib.hid hC2
    clear hP hC hC2
    go_wp2_with fail
    subst hV
    exact bodyPost_ret (results_node 6 rfl rfl (Blk.get _ hb2 (by simp [ndA_size])) (ndA_size _ _ _ _ _ _ _)) rfl (leaf_ret H.out HP.out HC.out (ndK 4))
   ·have hV:R=none:=by rw [HV.out];unfold node1;rw [if_neg hp];rfl
    (with_reducible refine (node_no L1.out.pa hp _ (ndA_one_slice _ _ _ _ _ _ _ _ _) (ndA_size _ _ _ _ _ _ _)).mono ?_)
    rintro e w2 ⟨rfl,hC⟩
    subst hV
    exact ⟨rfl,rfl,(L1.out.chg.trans hC).mono fun b _ e=>.inl e⟩
  | false =>
   rw [if_neg (fun h=>by cases h.2),if_neg (fun h=>k36 h.1),if_neg (fun h=>k42 h.1)] at hV
   have HV:=Lib.hid hV
   clear hV
   have e92:((n:Int) == 92)=false:=by rw [beq_eq_false_iff_ne];omega
   have e91:((n:Int) == 91)=false:=by rw [beq_eq_false_iff_ne];omega
   have e46:((n:Int) == 46)=false:=by rw [beq_eq_false_iff_ne];omega
   have e94:((n:Int) == 94)=true:=by rw [beq_iff_eq];omega
   go_enter Tryz.func34,Tryz.ntmps34
   go_wp2_with fail
   have hcall:=self_any L0.out.pa c l HLE.out
   rw [hn,← HV.out] at hcall
   generalize w.alloc (.cells zN 95)=w1 at *
   cases R with
   | none =>
    refine hcall.mono ?_
    rintro e w2 ⟨rfl,hc⟩
    exact ⟨rfl,rfl,(L0.out.chg.mono fun b _ e=>.inl e).trans hc⟩
   | some y =>
    refine hcall.mono ?_
    intro e w2 hp
    obtain ⟨A,cap,ov',rfl,hb2,hfin⟩:=nk_got H.out L0.out.chg L0.out.size L0.out.res hp
    have i2:InHeap w.heap.size w2:=Blk.inHeap hb2 (by simp [ndA_size])
    have HF:=Lib.hid hfin
    clear hfin hp hcall
    go_wp2_with fail
    obtain ⟨n1,n2,n3⟩:=HF.out (ndC y.1.1 (.slice A y.1.2.len cap))
    exact bodyPost_ret (results_node 6 rfl rfl (Blk.get _ hb2 (by simp [ndA_size])) (ndA_size _ _ _ _ _ _ _)) rfl ⟨_,_,rfl,n1,n2,n3⟩
 rw [if_neg (fun h=>k94 h.1)] at hV
 by_cases k36:n=36
 ·have k42:¬ n=42:=by omega
  by_cases hle:l=[]
  ·rw [if_pos ⟨k36,.inl hle⟩] at hV
   have HV:=Lib.hid hV
   have he:(tx l).toList.isEmpty=true:=by rw [ByteArray.toList_eq,tx_data,hle];rfl
   clear hV hle
   have e92:((n:Int) == 92)=false:=by rw [beq_eq_false_iff_ne];omega
   have e91:((n:Int) == 91)=false:=by rw [beq_eq_false_iff_ne];omega
   have e46:((n:Int) == 46)=false:=by rw [beq_eq_false_iff_ne];omega
   have e94:((n:Int) == 94)=false:=by rw [beq_eq_false_iff_ne];omega
   have e36:((n:Int) == 36)=true:=by rw [beq_iff_eq];omega
   go_enter Tryz.func34,Tryz.ntmps34
   go_wp2_with fail
   generalize (w.setCell ⟨g,0,none⟩ (.string (tx l))).alloc (.cells zN 95)=w1 at *
   by_cases hp:s.parts+1≤200
   ·have hV:R=some ((ndK 5,.nil),{ s with left:=l,parts:=s.parts+1 }):=by rw [HV.out];unfold node1;rw [if_pos hp];rfl
    (with_reducible refine (node_ok L1.out.pa hp 5 0 noSet 0 0 0 none 0 0).mono ?_)
    rintro e w2 ⟨rfl,hP,hC⟩
    obtain ⟨hb2,hC2⟩:=L1.out.step hgl hP hC
    have i2:InHeap w.heap.size w2:=Blk.inHeap hb2 (by simp [ndA_size])
    have HP:=Lib.hid hP
    have HC:=Lib.hid hC2
    clear hP hC hC2
    go_wp2_with fail
    subst hV
    exact bodyPost_ret (results_node 6 rfl rfl (Blk.get _ hb2 (by simp [ndA_size])) (ndA_size _ _ _ _ _ _ _)) rfl (leaf_ret H.out HP.out HC.out (ndK 5))
   ·have hV:R=none:=by rw [HV.out];unfold node1;rw [if_neg hp];rfl
    (with_reducible refine (node_no L1.out.pa hp _ (ndA_one_slice _ _ _ _ _ _ _ _ _) (ndA_size _ _ _ _ _ _ _)).mono ?_)
    rintro e w2 ⟨rfl,hC⟩
    subst hV
    exact ⟨rfl,rfl,(L1.out.chg.trans hC).mono fun b _ e=>.inl e⟩
  ·have he:(tx l).toList.isEmpty=false:=by rw [ByteArray.toList_eq,tx_data];simpa using hle
   have hne:=Lib.hid hle
   clear hle
   have e92:((n:Int) == 92)=false:=by rw [beq_eq_false_iff_ne];omega
   have e91:((n:Int) == 91)=false:=by rw [beq_eq_false_iff_ne];omega
   have e46:((n:Int) == 46)=false:=by rw [beq_eq_false_iff_ne];omega
   have e94:((n:Int) == 94)=false:=by rw [beq_eq_false_iff_ne];omega
   have e36:((n:Int) == 36)=true:=by rw [beq_iff_eq];omega
   cases ha:ahead [92,41] l with
   | true =>
    rw [if_pos ⟨k36,.inr ha⟩] at hV
    have HV:=Lib.hid hV
    clear hV
    go_enter Tryz.func34,Tryz.ntmps34
    go_wp2_with fail
    (with_reducible refine (Tryz.strings_HasPrefix _ _ _).mono ?_)
    rw [tx_data,show Lib.hasPrefix l (ByteArray.mk #[92,41]).data.toList=true from ha]
    rintro e w1 ⟨rfl,hw⟩
    have hw:=hw.symm
    subst hw
    go_wp2_with fail
    generalize (w.setCell ⟨g,0,none⟩ (.string (tx l))).alloc (.cells zN 95)=w1 at *
    by_cases hp:s.parts+1≤200
    ·have hV:R=some ((ndK 5,.nil),{ s with left:=l,parts:=s.parts+1 }):=by rw [HV.out];unfold node1;rw [if_pos hp];rfl
     (with_reducible refine (node_ok L1.out.pa hp 5 0 noSet 0 0 0 none 0 0).mono ?_)
     rintro e w2 ⟨rfl,hP,hC⟩
     obtain ⟨hb2,hC2⟩:=L1.out.step hgl hP hC
     have i2:InHeap w.heap.size w2:=Blk.inHeap hb2 (by simp [ndA_size])
     have HP:=Lib.hid hP
     have HC:=Lib.hid hC2
     clear hP hC hC2
     go_wp2_with fail
     subst hV
     exact bodyPost_ret (results_node 6 rfl rfl (Blk.get _ hb2 (by simp [ndA_size])) (ndA_size _ _ _ _ _ _ _)) rfl (leaf_ret H.out HP.out HC.out (ndK 5))
    ·have hV:R=none:=by rw [HV.out];unfold node1;rw [if_neg hp];rfl
     (with_reducible refine (node_no L1.out.pa hp _ (ndA_one_slice _ _ _ _ _ _ _ _ _) (ndA_size _ _ _ _ _ _ _)).mono ?_)
     rintro e w2 ⟨rfl,hC⟩
     subst hV
     exact ⟨rfl,rfl,(L1.out.chg.trans hC).mono fun b _ e=>.inl e⟩
   | false =>
    rw [if_neg (fun h=>h.2.elim hne.out (fun e=>by rw [ha] at e;cases e)),if_neg (fun h=>k42 h.1)] at hV
    have HV:=Lib.hid hV
    clear hV
    go_enter Tryz.func34,Tryz.ntmps34
    go_wp2_with fail
    (with_reducible refine (Tryz.strings_HasPrefix _ _ _).mono ?_)
    rw [tx_data,show Lib.hasPrefix l (ByteArray.mk #[92,41]).data.toList=false from ha]
    rintro e w1 ⟨rfl,hw⟩
    have hw:=hw.symm
    subst hw
    go_wp2_with fail
    have hcall:=self_any L0.out.pa c l HLE.out
    rw [hn,← HV.out] at hcall
    generalize w.alloc (.cells zN 95)=w1 at *
    cases R with
    | none =>
     refine hcall.mono ?_
     rintro e w2 ⟨rfl,hc⟩
     exact ⟨rfl,rfl,(L0.out.chg.mono fun b _ e=>.inl e).trans hc⟩
    | some y =>
     refine hcall.mono ?_
     intro e w2 hp
     obtain ⟨A,cap,ov',rfl,hb2,hfin⟩:=nk_got H.out L0.out.chg L0.out.size L0.out.res hp
     have i2:InHeap w.heap.size w2:=Blk.inHeap hb2 (by simp [ndA_size])
     have HF:=Lib.hid hfin
     clear hfin hp hcall
     go_wp2_with fail
     obtain ⟨n1,n2,n3⟩:=HF.out (ndC y.1.1 (.slice A y.1.2.len cap))
     exact bodyPost_ret (results_node 6 rfl rfl (Blk.get _ hb2 (by simp [ndA_size])) (ndA_size _ _ _ _ _ _ _)) rfl ⟨_,_,rfl,n1,n2,n3⟩
 rw [if_neg (fun h=>k36 h.1)] at hV
 by_cases k42:n=42
 ·have e92:((n:Int) == 92)=false:=by rw [beq_eq_false_iff_ne];omega
  have e91:((n:Int) == 91)=false:=by rw [beq_eq_false_iff_ne];omega
  have e46:((n:Int) == 46)=false:=by rw [beq_eq_false_iff_ne];omega
  have e94:((n:Int) == 94)=false:=by rw [beq_eq_false_iff_ne];omega
  have e36:((n:Int) == 36)=false:=by rw [beq_eq_false_iff_ne];omega
  have e42:((n:Int) == 42)=true:=by rw [beq_iff_eq];omega
  cases first with
  | true =>
   rw [if_neg (fun h=>by cases h.2.1)] at hV
   have HV:=Lib.hid hV
   clear hV
   go_enter Tryz.func34,Tryz.ntmps34
   go_wp2_with fail
   (with_reducible refine (must_ok _).mono ?_)
   rintro e w1 ⟨rfl,rfl⟩
   go_wp2_with fail
   have hcall:=self_any L0.out.pa c l HLE.out
   rw [hn,← HV.out] at hcall
   generalize w.alloc (.cells zN 95)=w1 at *
   cases R with
   | none =>
    refine hcall.mono ?_
    rintro e w2 ⟨rfl,hc⟩
    exact ⟨rfl,rfl,(L0.out.chg.mono fun b _ e=>.inl e).trans hc⟩
   | some y =>
    refine hcall.mono ?_
    intro e w2 hp
    obtain ⟨A,cap,ov',rfl,hb2,hfin⟩:=nk_got H.out L0.out.chg L0.out.size L0.out.res hp
    have i2:InHeap w.heap.size w2:=Blk.inHeap hb2 (by simp [ndA_size])
    have HF:=Lib.hid hfin
    clear hfin hp hcall
    go_wp2_with fail
    obtain ⟨n1,n2,n3⟩:=HF.out (ndC y.1.1 (.slice A y.1.2.len cap))
    exact bodyPost_ret (results_node 6 rfl rfl (Blk.get _ hb2 (by simp [ndA_size])) (ndA_size _ _ _ _ _ _ _)) rfl ⟨_,_,rfl,n1,n2,n3⟩
  | false =>
   cases begun with
   | true =>
    rw [if_neg (fun h=>by cases h.2.2)] at hV
    have HV:=Lib.hid hV
    clear hV
    go_enter Tryz.func34,Tryz.ntmps34
    go_wp2_with fail
    (with_reducible refine (must_ok _).mono ?_)
    rintro e w1 ⟨rfl,rfl⟩
    go_wp2_with fail
    have hcall:=self_any L0.out.pa c l HLE.out
    rw [hn,← HV.out] at hcall
    generalize w.alloc (.cells zN 95)=w1 at *
    cases R with
    | none =>
     refine hcall.mono ?_
     rintro e w2 ⟨rfl,hc⟩
     exact ⟨rfl,rfl,(L0.out.chg.mono fun b _ e=>.inl e).trans hc⟩
    | some y =>
     refine hcall.mono ?_
     intro e w2 hp
     obtain ⟨A,cap,ov',rfl,hb2,hfin⟩:=nk_got H.out L0.out.chg L0.out.size L0.out.res hp
     have i2:InHeap w.heap.size w2:=Blk.inHeap hb2 (by simp [ndA_size])
     have HF:=Lib.hid hfin
     clear hfin hp hcall
     go_wp2_with fail
     obtain ⟨n1,n2,n3⟩:=HF.out (ndC y.1.1 (.slice A y.1.2.len cap))
     exact bodyPost_ret (results_node 6 rfl rfl (Blk.get _ hb2 (by simp [ndA_size])) (ndA_size _ _ _ _ _ _ _)) rfl ⟨_,_,rfl,n1,n2,n3⟩
   | false =>
    rw [if_pos ⟨k42,rfl,rfl⟩] at hV
    go_enter Tryz.func34,Tryz.ntmps34
    go_wp2_with fail
    (with_reducible refine (must_no _).mono ?_)
    rintro e w1 ⟨rfl,rfl⟩
    subst hV
    exact ⟨rfl,rfl,L0.out.chg.mono fun b _ e=>.inl e⟩
 rw [if_neg (fun h=>k42 h.1)] at hV
 have HV:=Lib.hid hV
 clear hV
 have e92:((n:Int) == 92)=false:=by rw [beq_eq_false_iff_ne];omega
 have e91:((n:Int) == 91)=false:=by rw [beq_eq_false_iff_ne];omega
 have e46:((n:Int) == 46)=false:=by rw [beq_eq_false_iff_ne];omega
 have e94:((n:Int) == 94)=false:=by rw [beq_eq_false_iff_ne];omega
 have e36:((n:Int) == 36)=false:=by rw [beq_eq_false_iff_ne];omega
 have e42:((n:Int) == 42)=false:=by rw [beq_eq_false_iff_ne];omega
 go_enter Tryz.func34,Tryz.ntmps34
 go_wp2_with fail
 have hcall:=self_any L0.out.pa c l HLE.out
 rw [hn,← HV.out] at hcall
 generalize w.alloc (.cells zN 95)=w1 at *
 cases R with
 | none =>
  refine hcall.mono ?_
  rintro e w2 ⟨rfl,hc⟩
  exact ⟨rfl,rfl,(L0.out.chg.mono fun b _ e=>.inl e).trans hc⟩
 | some y =>
  refine hcall.mono ?_
  intro e w2 hp
  obtain ⟨A,cap,ov',rfl,hb2,hfin⟩:=nk_got H.out L0.out.chg L0.out.size L0.out.res hp
  have i2:InHeap w.heap.size w2:=Blk.inHeap hb2 (by simp [ndA_size])
  have HF:=Lib.hid hfin
  clear hfin hp hcall
  go_wp2_with fail
  obtain ⟨n1,n2,n3⟩:=HF.out (ndC y.1.1 (.slice A y.1.2.len cap))
  exact bodyPost_ret (results_node 6 rfl rfl (Blk.get _ hb2 (by simp [ndA_size])) (ndA_size _ _ _ _ _ _ _)) rfl ⟨_,_,rfl,n1,n2,n3⟩
end
end Go.Proofs.YtnjagecmhdagkaaGreatDoor
namespace Go.Proofs.YtnjagecmhdagkaaGreatDoor
open Go.RowKit
structure RB (base g:Nat) (tv ov0:Value) (W:World) (av:Nat→Prop) (ov lv:Value) (acc:Fr) (xs:List Value) (t:PS) (w:World):Prop where
 pa:Pa base w g tv ov t
 step:StepP (PaK g ov0) (PaK g ov) W w
 own:w.ownsRow W.heap.size 95 262 lv acc.len xs
 row:FrRow (fun b=>(W.heap.size≤b∧¬ PaK g ov b)∧¬ lv.ownBlock=some b∧¬ av b) w acc xs
 ne:∀ b,lv.ownBlock=some b→¬ PaK g ov b∧¬ av b
section
variable {base g:Nat} {tv ov0 ov ov' lv:Value} {W w w' w2:World} {av av' q:Nat→Prop} {acc:Fr} {xs:List Value} {s t t':PS}
theorem own_chgB {n size b0:Nat} {e:TypeId} {v:Value} (h:w.ownsRow b0 e size v n xs) (hc:Chg q w w') (hq:∀ b,v.ownBlock=some b→¬ q b):w'.ownsRow b0 e size v n xs:=by
 obtain ⟨h1,h2⟩:=h
 refine ⟨h1,h2.elim .inl ?_⟩
 rintro ⟨g,cap,cur,rfl,hb,hh,r⟩
 exact .inr ⟨g,cap,cur,rfl,hb,(hc.block g (Array.getElem?_eq_some_iff.1 hh).1 (hq g rfl)).trans hh,r⟩
theorem own_ltB {n size b0 b:Nat} {e:TypeId} {v:Value} (h:w.ownsRow b0 e size v n xs) (hb:v.ownBlock=some b):b < w.heap.size∧b0≤b:=by
 rcases h.2 with ⟨rfl,_⟩ | ⟨g,cap,cur,rfl,h1,hh,_⟩
 ·cases hb
 ·cases hb;exact ⟨(Array.getElem?_eq_some_iff.1 hh).1,h1⟩
theorem RB.part (h:RB base g tv ov0 W av ov lv acc xs t w) (hP:Pa base w' g tv ov' t') (hS:StepP (PaK g ov) (PaK g ov') w w') (hav:∀ b,av b→b < w.heap.size):RB base g tv ov0 W av ov' lv acc xs t' w':=by
 refine ⟨hP,h.step.trans hS,own_chgB h.own hS.chg fun b hb=>(h.ne b hb).1,?_,fun b hb=>⟨fun hk=>?_,(h.ne b hb).2⟩⟩
 ·exact ((h.row.mono (ok2:=fun b=>((W.heap.size≤b∧¬ PaK g ov' b)∧¬ lv.ownBlock=some b∧¬ av b)∧¬ PaK g ov b) fun b hb h2=>⟨⟨⟨h2.1.1,fun hk=>(hS.new b hk).elim h2.1.2 fun h3=>by omega⟩,h2.2⟩,h2.1.2⟩).chg hS.chg fun b _ h=>h.2).mono fun b _ h=>h.1
 ·rcases hS.new b hk with h1 | h1
  ·exact (h.ne b hb).1 h1
  ·have:=(own_ltB h.own hb).1;omega
theorem RB.grows (h:RB base g tv ov0 W av ov lv acc xs t w) (hg:Grows w w'):RB base g tv ov0 W av ov lv acc xs t w' :=
 have hc:Chg (fun _=>False) w w':=Chg.of_grows hg
 ⟨h.pa.grows hg,h.step.trans (StepP.of_grows hg),own_chgB h.own hc fun _ _ h=>h,h.row.chg hc fun _ _ _ h=>h,h.ne⟩
theorem RB.avoid {xb:Nat} {o:Obj} (h:RB base g tv ov0 W (fun _=>False) ov lv acc xs t w) (hx:xb=w.heap.size):RB base g tv ov0 W (fun b=>b=xb) ov lv acc xs t (w.alloc o):=by
 subst hx
 have h2:=h.grows ((Grows.refl w).alloc o)
 exact ⟨h2.pa,h2.step,h2.own,(h.row.mono fun b hb h3=>⟨h3.1,h3.2.1,by omega⟩).chg (Chg.of_grows (p:=fun _=>False) ((Grows.refl w).alloc o)) fun _ _ _ h=>h,fun b hb=>⟨(h.ne b hb).1,fun e=>by have:=(own_ltB h.own hb).1;omega⟩⟩
theorem RB.setx {xb:Nat} (h:RB base g tv ov0 W (fun b=>b=xb) ov lv acc xs t w) (hc:Chg (fun b=>b=xb) w w') (hK:¬ PaK g ov xb) (hW:W.heap.size≤xb):RB base g tv ov0 W (fun b=>b=xb) ov lv acc xs t w' :=
 ⟨h.pa.chg hc fun b hb e=>hK (e ▸ hb),⟨chg_late h.step.chg hc fun x hx e=>by omega,h.step.new⟩,own_chgB h.own hc fun b hb=>(h.ne b hb).2,h.row.chg hc fun b _ h=>h.2.2,h.ne⟩
theorem RB.push {e cap c:Nat} {A:Option Addr} {x:NdV} {k:Fr} (h:RB base g tv ov0 W av ov lv acc xs t w) (hown:w2.ownsRow W.heap.size 95 262 (.slice (some ⟨e,0,none⟩) (acc.len+1) cap) (acc.len+1) (xs++(ndC x (.slice A k.len c)).toList)) (hC:Chg (fun b=>lv.ownBlock=some b) w w2) (hl:lv.ownBlock=some e∨w.heap.size≤e)
  (hk:FrAt (fun b=>(W.heap.size≤b∧¬ PaK g ov b)∧¬ lv.ownBlock=some b) w A c k):RB base g tv ov0 W (fun _=>False) ov (.slice (some ⟨e,0,none⟩) (acc.len+1) cap) (acc.app (Fr.one x k)) (xs++(ndC x (.slice A k.len c)).toList) t w2:=by
 have hlen:(acc.app (Fr.one x k)).len=acc.len+1:=by rw [Fr.len_app];rfl
 have hne:∀ b,b < w.heap.size→¬ lv.ownBlock=some b→¬ (Value.slice (some ⟨e,0,none⟩) (acc.len+1) cap).ownBlock=some b:=fun b hb h1 h2=>by
  obtain rfl:e=b:=Option.some.inj h2
  rcases hl with h3 | h3
  ·exact h1 h3
  ·omega
 refine ⟨h.pa.chg hC fun b hb e1=>(h.ne b e1).1 hb,⟨chg_late h.step.chg hC fun b hb e1=>by have:=(own_ltB h.own e1).2;omega,h.step.new⟩,by rw [hlen];exact hown,?_,fun b hb=>⟨fun hK=>?_,fun h=>h⟩⟩
 ·refine FrRow.app (((h.row.mono (ok2:=fun b=>((W.heap.size≤b∧¬ PaK g ov b)∧¬ (Value.slice (some ⟨e,0,none⟩) (acc.len+1) cap).ownBlock=some b∧¬ False)∧¬ lv.ownBlock=some b) fun b hb h2=>⟨⟨h2.1,hne b hb h2.2.1,fun h=>h⟩,h2.2.1⟩).chg hC fun b _ h=>h.2).mono fun b _ h=>h.1) ?_
  obtain ⟨ys,h1,h2⟩:=((hk.mono (ok2:=fun b=>((W.heap.size≤b∧¬ PaK g ov b)∧¬ (Value.slice (some ⟨e,0,none⟩) (acc.len+1) cap).ownBlock=some b∧¬ False)∧¬ lv.ownBlock=some b) fun b hb h2=>⟨⟨h2.1,hne b hb h2.2,fun h=>h⟩,h2.2⟩).chg hC fun b _ h=>h.2).mono (ok2:=fun b=>(W.heap.size≤b∧¬ PaK g ov b)∧¬ (Value.slice (some ⟨e,0,none⟩) (acc.len+1) cap).ownBlock=some b∧¬ False) fun b _ h=>h.1
  exact ⟨A,c,ys,[],(List.append_nil _).symm,h1,h2,rfl⟩
 ·obtain rfl:e=b:=Option.some.inj hb
  rcases hl with h3 | h3
  ·exact (h.ne e h3).1 hK
  ·have:=h.pa.own_lt hK;omega
theorem RB.ret (h:RB base g tv ov0 W av ov lv acc xs t w):∃ A cap,lv=.slice A acc.len cap∧FrAt (fun b=>W.heap.size≤b∧¬ PaK g ov b) w A cap acc:=by
 have hr:=h.row.mono (ok2:=fun b=>W.heap.size≤b∧¬ PaK g ov b) fun b _ h=>h.1
 rcases h.own with ⟨hl,⟨rfl,h0⟩ | ⟨e,cap,cur,rfl,hb,hh,h1,h2,h3,h4⟩⟩
 ·rw [h0] at hl ⊢
  have:xs=[]:=List.length_eq_zero_iff.1 (by simpa using hl)
  subst this
  exact ⟨none,0,rfl,[],by rw [h0];exact Sl.zero _ w,hr⟩
 ·refine ⟨some ⟨e,0,none⟩,cap,rfl,xs,⟨⟨hl,fun _=>⟨e,0,rfl,(Array.getElem?_eq_some_iff.1 hh).1,fun j u hu=>?_⟩⟩,(fun e=>by cases e),h1,by unfold maxLen at h2;omega,fun _ a e1=>by cases e1;exact ⟨hb,(h.ne e rfl).1⟩⟩,hr⟩
  rw [cell_of_row w e _ cur _ (0,0) hh,Nat.zero_add]
  rw [← h4,List.getElem?_take] at hu
  split at hu
  ·simpa using hu
  ·cases hu
theorem RB.start (h:Pa base w g tv ov s):RB base g tv ov w (fun _=>False) ov (.slice none 0 0) .nil [] s w :=
 ⟨h,StepP.of_grows (Grows.refl _),World.ownsRow_nil _ _ _ _,rfl,fun b hb=>by cases hb⟩
end
end Go.Proofs.YtnjagecmhdagkaaGreatDoor
