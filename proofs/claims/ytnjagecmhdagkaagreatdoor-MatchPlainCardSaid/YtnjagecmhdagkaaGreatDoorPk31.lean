/-
 Several texts of the proof: MatZ, MatG, MatSq, MatSa, MatSb.
-/
import Derived.Test.YtnjagecmhdagkaaGreatDoorPk30
import Derived.Test.YtnjagecmhdagkaaGreatDoorPk27
import Derived.Test.YtnjagecmhdagkaaGreatDoorPk28
import Derived.Deep.RegionLaw
import Derived.ArgAppend
set_option linter.unusedSimpArgs false
set_option linter.unusedVariables false
set_option maxRecDepth 3000
/-
  Matches: where rows may end: all contracts; the greatest place from which one comes on.
-/
namespace Go.Proofs.YtnjagecmhdagkaaGreatDoor
open Go.RowKit
section
variable {s:List UInt8} {Nm:Nat→NdV→Fr→Prop} {tb r lo:Nat}
theorem turns_all (hs:s.length≤60000) (hN:NumOk Nm) {x:NdV} {k:Fr} (hx:NdOk x) (hrow:RowC s Nm tb r lo k):∀ (F a d:Nat),a≤s.length→d≤100000→fuelT s.length x a d≤F→TurnsC s Nm tb r lo x k a d:=by
 intro F
 induction F with
 | zero=>intro a d _ _ h;unfold fuelT at h;omega
 | succ F ih =>
  intro a d ha hd hF
  refine turns_step hs hN hrow a d ha hd fun hm i hi hR hgo=>ih i (capD x d+1) hi ?_ ?_
  ·have hm2:=hm
   unfold moreD at hm2
   simp only [Bool.or_eq_true,decide_eq_true_eq] at hm2
   have h1:=hx.mn
   have h2:=hx.mx
   have h3:x.mx < 0→capD x d≤x.mn:=fun h=>by unfold capD;rw [if_pos h];omega
   rcases hm2 with h | h
   ·have:=h3 h;omega
   ·omega
  ·have hai:=(endsF_rises s k a i ha hR).1
   have:=fuel_next (n:=s.length) (a:=a) (i:=i) hm (by
    rcases hgo with h | h
    ·exact .inl h
    ·by_cases e:a=i
     ·exact .inr ⟨e,h⟩
     ·exact .inl (by omega)) hi
   omega
theorem mturns_ok (hs:s.length≤60000) (hN:NumOk Nm) {x:NdV} {k:Fr} (hx:NdOk x) (hrow:RowC s Nm tb r lo k) (a d:Nat) (ha:a≤s.length) (hd:d≤100000):TurnsC s Nm tb r lo x k a d:=turns_all hs hN hx hrow _ a d ha hd (Nat.le_refl _)
theorem mrow_ok (hs:s.length≤60000) (hN:NumOk Nm) (f:Fr):RowC s Nm tb r lo f :=
 (all_of (C:=RowC s Nm tb r lo) (fun f hA=>mrow_any hs f fun a x k c hf m hm=>by
  rw [hf,AllK.app] at hA
  exact node_any hs hN hA.2.1 fun a ha=>mturns_ok hs hN (hN.ok m x k hm).1 hA.2.1 a 0 ha (by omega)) f).1
theorem mnode_ok (hs:s.length≤60000) (hN:NumOk Nm) {x:NdV} {k:Fr} (hx:NdOk x):NodeC s Nm tb r lo x k:=node_any hs hN (mrow_ok hs hN k) fun a ha=>mturns_ok hs hN hx (mrow_ok hs hN k) a 0 ha (by omega)
end
structure OnV (v:Value) (P on:Nat→Bool) (a e:Nat) (f:FuncId) (caps:Array Value) (I:World→Prop):Prop where
 val:v=.func (.func f) #[] caps
 enters:Enters f
 call:∀ k w,a < k→k≤e→P k=true→I w→Calls Tryz.prog f (#[.int .i64 k]++caps) w fun e w'=>e=.returned (.bool (on k))∧I w'
theorem long_stop {P on:Nat→Bool} {a t:Nat} (h:¬ a < t):longF P on a t=a:=by
 cases t with
 | zero=>rfl
 | succ t=>unfold longF;rw [if_pos (by omega)]
theorem long_yes {P on:Nat→Bool} {a t:Nat} (h:a < t) (h1:P t=true) (h2:on t=true):longF P on a t=t:=by
 cases t with
 | zero=>omega
 | succ t=>unfold longF;rw [if_neg (by omega),if_pos (by rw [h1,h2];rfl)]
theorem long_no {P on:Nat→Bool} {a t:Nat} (h:a < t) (h1:(P t && on t)=false):longF P on a t=longF P on a (t - 1):=by
 cases t with
 | zero=>omega
 | succ t =>
  conv=>lhs;unfold longF
  rw [if_neg (by omega),if_neg (by rw [h1];simp)];rfl
set_option maxRecDepth 100000 in
set_option maxHeartbeats 2000000 in
theorem longest_any {w:World} {b W a e:Nat} {P on:Pl} {v:Value} {f:FuncId} {caps:Array Value} {I:World→Prop} (hV:OnV v P on a e f caps I) (h0:I w) (hP:∀ w,I w→PlAt w b W P) (hW:W≤1000) (he:e < 64*W) :
  Calls Tryz.prog 75 #[plV b W,.int .i64 a,.int .i64 e,v] w fun e' w'=>e'=.returned (.int .i64 (longF P on a e:Nat))∧I w':=by
 have hv:=hV.val
 subst hv
 have HV:=Lib.hid hV
 have HI0:=Lib.hid h0
 have HP:=Lib.hid hP
 obtain ⟨R,hR⟩:∃ R,longF P on a e=R:=⟨_,rfl⟩
 rw [hR]
 have HR:=Lib.hid hR
 have he6:e < 64000:=by omega
 clear hV h0 hP hR
 go_enter Tryz.func75,Tryz.ntmps75
 go_wp2_with fail
 go_loopg [9] e (fun q v9 wr=>∃ t:Nat,q=t∧v9=.int .i64 t∧t≤e∧longF P on a t=R∧I wr)
 case atStart=>exact ⟨e,rfl,rfl,Nat.le_refl _,HR.out,HI0.out⟩
 case round =>
  obtain ⟨t,hq,rfl,hte,hL,hI⟩:=hrel
  have HL:=Lib.hid hL
  have HI:=Lib.hid hI
  have HQ:=Lib.hid hq
  clear hL hI hq HR HI0
  by_cases hat:a < t
  ·have hati:(a:Int) < (t:Int):=by omega
   have hhas:=has_any (HP.out _ HI.out) t (by omega) hW
   cases hPt:P t with
   | false =>
    rw [hPt] at hhas
    have hL2:=long_no (on:=on) (P:=P) hat (by rw [hPt];rfl)
    have HL2:=Lib.hid hL2
    have ht1:(t:Int) - 1=((t - 1:Nat):Int):=by omega
    obtain ⟨t1,ht1e⟩:∃ z,t - 1=z:=⟨_,rfl⟩
    have HT1:=Lib.hid ht1e
    rw [ht1e] at ht1
    clear hPt hL2 ht1e
    go_wp2_with fail
    (with_reducible refine hhas.mono ?_)
    rintro e9 w9 ⟨rfl,hw⟩
    have hw:=hw.symm
    subst hw
    clear hhas
    go_wp2_with fail
    go_roundg t1
    case measure=>have:=HQ.out;have:=HT1.out;omega
    case rel=>exact ⟨t1,rfl,rfl,by have:=HT1.out;omega,by rw [← HT1.out,← HL2.out];exact HL.out,HI.out⟩
   | true =>
    rw [hPt] at hhas
    have hcall:=HV.out.call t wr hat hte hPt HI.out
    have hent:=HV.out.enters (#[.int .i64 t]++caps) wr
    obtain ⟨o,ho⟩:∃ o,on t=o:=⟨_,rfl⟩
    rw [ho] at hcall
    have HPT:=Lib.hid hPt
    have HO:=Lib.hid ho
    clear hPt ho
    go_wp2_with fail
    (with_reducible refine hhas.mono ?_)
    rintro e9 w9 ⟨rfl,hw⟩
    have hw:=hw.symm
    subst hw
    clear hhas
    go_wp2_with fail
    (with_reducible refine hcall.mono ?_)
    rintro e9 w9 ⟨rfl,hI9⟩
    have HI9:=Lib.hid hI9
    clear hcall hI9 hent
    cases o with
    | true =>
     have hL2:=long_yes hat HPT.out HO.out
     have hRt:R=t:=by rw [← HL.out,hL2]
     subst hRt
     clear HL hL2
     go_wp2_with fail
     go_ret
     exact ⟨rfl,HI9.out⟩
    | false =>
     have HL2:=Lib.hid (long_no (on:=on) (P:=P) hat (by rw [HO.out];simp))
     have ht1:(t:Int) - 1=((t - 1:Nat):Int):=by omega
     obtain ⟨t1,ht1e⟩:∃ z,t - 1=z:=⟨_,rfl⟩
     have HT1:=Lib.hid ht1e
     rw [ht1e] at ht1
     clear ht1e
     go_wp2_with fail
     go_roundg t1
     case measure=>have:=HQ.out;have:=HT1.out;omega
     case rel=>exact ⟨t1,rfl,rfl,by have:=HT1.out;omega,by rw [← HT1.out,← HL2.out];exact HL.out,HI9.out⟩
  ·have hatb:decide (a < t)=false:=decide_eq_false hat
   have hRt:R=a:=by rw [← HL.out];exact long_stop hat
   subst hRt
   clear HL hat
   go_wp2_with fail
   go_ret
   exact ⟨rfl,HI.out⟩
end Go.Proofs.YtnjagecmhdagkaaGreatDoor
namespace Go.Proofs.YtnjagecmhdagkaaGreatDoor
open Go.RowKit
def AllNd:Fr→Prop
 | .nil=>True
 | .cons x k r=>NdOk x∧AllNd k∧AllNd r
theorem AllNd.app {b:Fr}:∀ {a:Fr},AllNd (a.app b) ↔ AllNd a∧AllNd b:=by
 intro a
 induction a with
 | nil=>simp [Fr.app,AllNd]
 | cons x k r _ ih=>simp only [Fr.app,AllNd,ih,and_assoc]
theorem AllNum.nd {Nm:Nat→NdV→Fr→Prop} (hN:NumOk Nm):∀ {f:Fr} {m:Nat},AllNum Nm f m→AllNd f:=by
 intro f
 induction f with
 | nil=>intro m _;trivial
 | cons x k r ihk ihr=>rintro m ⟨h1,h2,h3⟩;exact ⟨(hN.ok _ _ _ h1).1,ihk h2,ihr h3⟩
theorem unset_app {b:Fr}:∀ {a:Fr} {g:Spn},unsetV (a.app b) g=unsetV b (unsetV a g):=by
 intro a
 induction a with
 | nil=>intro g;rfl
 | cons x k r _ ih=>intro g;simp only [Fr.app,unsetV,ih]
theorem unset_len:∀ {f:Fr} {g:Spn},(unsetV f g).length=g.length:=by
 intro f
 induction f with
 | nil=>intro g;rfl
 | cons x k r ihk ihr =>
  intro g
  simp only [unsetV]
  rw [ihr,ihk]
  split
  ·exact spSet_len _ _ _ _
  ·rfl
structure SpAt (w:World) (G:Nat) (g:Spn):Prop where
 eq:blk w G=spC g
 len:g.length=20
section
variable {w w':World} {G:Nat} {g:Spn}
theorem SpAt.zpos (h:SpAt w G g):0 < (spC g).size:=by rw [spC_size,h.len];decide
theorem SpAt.inh (h:SpAt w G g):InHeap G w:=Blk.inHeap h.eq h.zpos
theorem SpAt.chg {p:Nat→Prop} (h:SpAt w G g) (hc:Chg p w w') (hp:¬ p G):SpAt w' G g:=⟨(chg_blk hc h.inh hp).trans h.eq,h.len⟩
theorem SpAt.grows (h:SpAt w G g) (hg:Grows w w'):SpAt w' G g:=h.chg (Chg.of_grows (p:=fun _=>False) hg) fun h=>h
theorem SpAt.cell (h:SpAt w G g) {k:Nat} (hk:k < 20):w.cell? ⟨G,k,none⟩=some (.int .i64 (g.getD k 0)):=(Blk.cell h.eq h.zpos k).trans (spC_get (by rw [h.len];exact hk))
theorem SpAt.free (h:SpAt w G g) (k:Nat):w.frozen? ⟨G,k,none⟩=false:=Blk.free h.eq h.zpos k
theorem SpAt.put (h:SpAt w G g) (k:Nat) (a b:Int):SpAt ((w.setCell ⟨G,k*2,none⟩ (.int .i64 a)).setCell ⟨G,k*2+1,none⟩ (.int .i64 b)) G (spSet g k a b):=⟨sp_put h.eq h.len a b,by rw [spSet_len];exact h.len⟩
end
attribute [local go_sem ↓] zeroNm ldNm_eq stNm_eq
attribute [local go_sem] loadNm loadNm_if storeNm storeNm_if nm_one_nd nm_size_nd over_nm span_nm
set_option maxRecDepth 100000 in
set_option maxHeartbeats 4000000 in
theorem unset_any (ok:Nat→Prop):∀ (n:Nat) (f:Fr) (m:Nat) (A:Option Addr) (cap:Nat) (w:World) (G:Nat) (g:Spn),f.size≤n→AllNd f→NfAt ok w A cap f m→SpAt w G g→¬ ok G →
  Calls Tryz.prog 92 #[.slice A f.len cap,.pointer (some ⟨G,0,none⟩)] w fun e w'=>e=.returned (.tuple #[])∧SpAt w' G (unsetV f g)∧Chg (fun b=>b=G) w w':=by
 intro n
 induction n with
 | zero =>
  intro f m A cap w G g hn hnd hA hG hok
  cases f with
  | cons x k r=>simp [Fr.size] at hn
  | nil =>
   have HG:=Lib.hid hG
   clear hnd hA hG hok hn
   go_enter Tryz.func92,Tryz.ntmps92
   go_wp2_with fail
   go_loopg [8] 0 (fun q v8 wr=>v8=.int .i64 0∧wr=w)
   case atStart=>exact ⟨rfl,rfl⟩
   case round =>
    obtain ⟨rfl,rfl⟩:=hrel
    go_wp2_with fail
    exact ⟨rfl,.tuple #[],results_none rfl _ _ _,rfl,HG.out,Chg.refl _ _⟩
 | succ n ih =>
 intro f m A cap w G g hn hnd hA hG hok
 have inp:InHeap G w:=hG.inh
 have hfl:f.len≤9223372036854775807:=by
  obtain ⟨xs,h1,_⟩:=hA
  have:=h1.le
  have:=h1.cap63
  omega
 have HA:=Lib.hid hA
 have HOK:=Lib.hid hok
 have HG:=Lib.hid hG
 have HM:=Lib.hid hn
 have HND:=Lib.hid hnd
 have HIH:=Lib.hid ih
 clear hA hok hG hn hnd ih
 go_enter Tryz.func92,Tryz.ntmps92
 go_wp2_with fail
 go_loopg [8] f.len (fun q v8 wr=>∃ (i:Nat) (a c:Fr),q+i=f.len∧v8=.int .i64 i∧f=a.app c∧a.len=i∧SpAt wr G (unsetV a g)∧Chg (fun b=>b=G) w wr)
 case atStart=>exact ⟨0,.nil,f,by omega,rfl,rfl,rfl,HG.out,Chg.refl _ _⟩
 case round =>
  obtain ⟨i,a,c,hq,rfl,hf,hai,hS,hC⟩:=hrel
  cases c with
  | nil =>
   have hi:i=f.len:=by rw [hf,Fr.app_nil];exact hai.symm
   have hfa:f=a:=by rw [hf,Fr.app_nil]
   subst hi hfa
   have HS:=Lib.hid hS
   have HC:=Lib.hid hC
   have hin:decide (f.len < f.len)=false:=decide_eq_false (Nat.lt_irrefl _)
   clear hS hC hf hq
   go_wp2_with fail
   exact ⟨rfl,.tuple #[],results_none rfl _ _ _,rfl,HS.out,HC.out⟩
  | cons x kids rest =>
   have hil:i < f.len:=by rw [hf,Fr.len_app,hai];simp [Fr.len]
   have hsz:kids.size+1+a.size≤f.size:=by rw [hf,Fr.size_app];simp [Fr.size];omega
   have hAr:=HA.out.chg hC fun b _ hb e=>by subst e;exact HOK.out hb
   obtain ⟨b,o,KA,kn,kc,K,capk,hAs,hK,hld⟩:=hAr.node hf
   subst hAs
   rw [hai] at hld
   have hnd2:=HND.out
   rw [hf,AllNd.app] at hnd2
   obtain ⟨-,hx,hkn,-⟩:=hnd2
   have hxn:=hx.n
   have hxi:(x.n:Int) < 10:=by omega
   obtain ⟨id,hidd⟩:∃ id,m+a.size=id:=⟨_,rfl⟩
   rw [hidd] at hld hK
   have HQ:=Lib.hid hq
   have HS:=Lib.hid hS
   have HC:=Lib.hid hC
   have HK:=Lib.hid hK
   have HF:=Lib.hid hf
   have HAI:=Lib.hid hai
   have HSZ:=Lib.hid hsz
   have HKN:=Lib.hid hkn
   clear hq hS hC hK hf hai hAr hsz hx hkn hidd
   go_upto_region 3 with fail
   have hL:=(LaidAt.start wr).alloc (nmC x (.slice KA kn kc) id (.slice K kids.len capk)) 102
   generalize wr.alloc (Obj.cells (nmC x (.slice KA kn kc) id (.slice K kids.len capk)) 102)=w5 at *
   have hb5:blk w5 wr.heap.size=nmC x (.slice KA kn kc) id (.slice K kids.len capk):=hL.blk 0 _ rfl
   have hg5:=hL.grows
   have hz5:w5.heap.size=wr.heap.size+1:=hL.size
   obtain ⟨bX,hbX⟩:∃ z,z=wr.heap.size:=⟨_,rfl⟩
   rw [← hbX] at hb5 ⊢
   have S5:=HS.out.grows hg5
   have hGw:G < wr.heap.size:=HS.out.inh
   have hXG:bX≠G:=by omega
   have c0:w5.cell? ⟨bX,0,none⟩=some (.int .i64 x.kind):=((Blk.cell hb5 (by rw [nmC_size];decide) 0).trans (nmA_lt (ndA_size _ _ _ _ _ _ _) (by decide))).trans (ndA_0 _ _ _ _ _ _ _)
   have c258:w5.cell? ⟨bX,258,none⟩=some (.int .i64 x.n):=((Blk.cell hb5 (by rw [nmC_size];decide) 258).trans (nmA_lt (ndA_size _ _ _ _ _ _ _) (by decide))).trans (ndA_258 _ _ _ _ _ _ _)
   have ibX:InHeap bX w5:=Blk.inHeap hb5 (by rw [nmC_size];decide)
   have iG:InHeap G w5:=S5.inh
   have g0:=S5.cell (k:=x.n*2) (by omega)
   have g1:=S5.cell (k:=x.n*2+1) (by omega)
   have gf:=S5.free
   have HB5:=Lib.hid hb5
   have HS5:=Lib.hid S5
   have HG5:=Lib.hid hg5
   have HBX:=Lib.hid hbX
   generalize (unsetV a g).getD (x.n*2) 0=z0 at g0
   generalize (unsetV a g).getD (x.n*2+1) 0=z1 at g1
   clear hL hb5 S5 hg5 hbX hld
   obtain ⟨B,hB⟩:∃ B,((x.kind:Int) == 7)=B:=⟨_,rfl⟩
   go_upto_if 15 with fail
   go_cut [] (fun wx=>SpAt wx G (if x.kind=7 then spSet (unsetV a g) x.n (-1) (-1) else unsetV a g)∧Chg (fun b=>b=G) w5 wx)
   case first =>
    cases B with
    | true =>
     have H7:Hid (x.kind=7):=Lib.hid (by simp at hB;omega)
     go_wp2_with fail
     go_region_law (fail)
     all_goals
      go_wp2_with fail
      go_meet
      exact ⟨by rw [if_pos H7.out];exact (HS5.out.put _ _ _).grows (by repeat' first | exact Grows.refl _ | refine Grows.drewN ?_ _ | refine Grows.drew ?_),(sp_chg _ _ _ _ _).trans (Chg.of_grows (by repeat' first | exact Grows.refl _ | refine Grows.drewN ?_ _ | refine Grows.drew ?_))⟩
    | false =>
     have H7:Hid (¬ x.kind=7):=Lib.hid (by simp at hB;omega)
     go_wp2_with fail
     go_meet
     exact ⟨by rw [if_neg H7.out];exact HS5.out,Chg.refl _ _⟩
   case rest =>
    obtain ⟨hS6,hC6⟩:=hcut
    have hb6:=(chg_blk hC6 ibX hXG).trans HB5.out
    have k6:wc.cell? ⟨bX,263,none⟩=some (.slice K kids.len capk):=(Blk.cell hb6 (by rw [nmC_size];decide) 263).trans (nmA_263 (ndA_size _ _ _ _ _ _ _))
    have hK6:=(HK.out.chg (Chg.of_grows (p:=fun b=>b=G) HG5.out) fun b _ hb e=>by subst e;exact HOK.out hb).chg hC6 fun b _ hb e=>by subst e;exact HOK.out hb
    have hcall:=HIH.out kids (id+1) K capk wc G _ (by have:=HM.out;have:=HSZ.out;omega) HKN.out hK6 hS6 HOK.out
    have C6:=Lib.hid (HC.out.trans ((Chg.of_grows HG5.out).trans hC6))
    clear hb6 hK6 hS6 hC6 c0 c258 g0 g1 gf hB
    go_wp2_with fail
    (with_reducible refine hcall.mono ?_)
    rintro e w7 ⟨rfl,hS7,hC7⟩
    have hfin:SpAt w7 G (unsetV (a.app (Fr.one x kids)) g):=by
     rw [unset_app]
     exact hS7
    have HFIN:=Lib.hid hfin
    have C7:=Lib.hid (C6.out.trans hC7)
    clear hcall hS7 hC7 hfin k6
    go_wp2_with fail
    go_roundg (gk - 1)
    case measure=>have:=HQ.out;omega
    case rel=>exact ⟨i+1,a.app (Fr.one x kids),rest,by have:=HQ.out;omega,by simp,by rw [HF.out,Fr.app_assoc];rfl,by rw [Fr.len_app,HAI.out];rfl,HFIN.out,C7.out⟩
end Go.Proofs.YtnjagecmhdagkaaGreatDoor
namespace Go.Proofs.YtnjagecmhdagkaaGreatDoor
open Go.RowKit
theorem SpIn.unset {n:Nat}:∀ {f:Fr} {g:Spn},AllNd f→SpIn n g→SpIn n (unsetV f g):=by
 intro f
 induction f with
 | nil=>intro g _ h;exact h
 | cons x k r ihk ihr =>
  rintro g ⟨h1,h2,h3⟩ h
  unfold unsetV
  refine ihr h3 (ihk h2 ?_)
  split
  ·exact h.set h1.n (by omega) (by omega) (by omega)
  ·exact h
end Go.Proofs.YtnjagecmhdagkaaGreatDoor
namespace Go.Proofs.YtnjagecmhdagkaaGreatDoor
open Go.RowKit
def WyRow (ok:Nat→Prop) (w:World):Wy→List Value→Prop
 | .nil,xs=>xs=[]
 | .cons l k r,xs=>∃ (A:Option Addr) (cap:Nat) (ys zs:List Value),xs=.int .i64 l::.slice A k.len cap::zs∧SlZ 2 ok w A cap k.len ys∧WyRow ok w k ys∧WyRow ok w r zs∧l≤100000
section
variable {ok ok2 q:Nat→Prop} {w w':World} {A:Option Addr} {cap:Nat}
theorem WyRow.chg (hc:Chg q w w') (hp:∀ b,b < w.heap.size→ok b→¬ q b):∀ {f:Wy} {xs:List Value},WyRow ok w f xs→WyRow ok w' f xs:=by
 intro f
 induction f with
 | nil=>exact fun h=>h
 | cons l k r ihk ihr =>
  rintro xs ⟨A,cap,ys,zs,e,h1,h2,h3,h4⟩
  exact ⟨A,cap,ys,zs,e,h1.chg hc hp,ihk h2,ihr h3,h4⟩
theorem WyRow.mono (ho:∀ b,b < w.heap.size→ok b→ok2 b):∀ {f:Wy} {xs:List Value},WyRow ok w f xs→WyRow ok2 w f xs:=by
 intro f
 induction f with
 | nil=>exact fun h=>h
 | cons l k r ihk ihr =>
  rintro xs ⟨A,cap,ys,zs,e,h1,h2,h3,h4⟩
  exact ⟨A,cap,ys,zs,e,h1.mono ho,ihk h2,ihr h3,h4⟩
theorem WyRow.snoc {l:Nat} {k:Wy} {A:Option Addr} {cap:Nat} {ys:List Value} (h1:SlZ 2 ok w A cap k.len ys) (h2:WyRow ok w k ys) (hl:l≤100000):∀ {f:Wy} {xs:List Value},WyRow ok w f xs→WyRow ok w (f.snoc l k) (xs++[.int .i64 l,.slice A k.len cap]):=by
 intro f
 induction f with
 | nil=>intro xs h;cases h;exact ⟨A,cap,ys,[],rfl,h1,h2,rfl,hl⟩
 | cons l2 k2 r _ ihr =>
  rintro xs ⟨A2,cap2,ys2,zs,e,g1,g2,g3,g4⟩
  exact ⟨A2,cap2,ys2,zs++[.int .i64 l,.slice A k.len cap],by rw [e];rfl,g1,g2,ihr g3,g4⟩
theorem WyRow.one:∀ {f:Wy} {xs:List Value},WyRow ok w f xs→∀ v ∈ xs,v.oneCell'=true:=by
 intro f
 induction f with
 | nil=>intro xs h;cases h;simp
 | cons l k r _ ihr =>
  rintro xs ⟨A,cap,ys,zs,e,h1,h2,h3,h4⟩ v hv
  rw [e] at hv
  rcases List.mem_cons.1 hv with rfl | hv
  ·rfl
  ·rcases List.mem_cons.1 hv with rfl | hv
   ·rfl
   ·exact ihr h3 v hv
theorem Wy.len_snoc:∀ {f:Wy} {l:Nat} {k:Wy},(f.snoc l k).len=f.len+1
 | .nil,_,_=>rfl
 | .cons _ _ r,l,k=>by simp only [Wy.snoc,Wy.len,r.len_snoc]
def WyAt (ok:Nat→Prop) (w:World) (A:Option Addr) (cap:Nat) (f:Wy):Prop:=∃ xs,SlZ 2 ok w A cap f.len xs∧WyRow ok w f xs
theorem WyAt.chg {f:Wy} (h:WyAt ok w A cap f) (hc:Chg q w w') (hp:∀ b,b < w.heap.size→ok b→¬ q b):WyAt ok w' A cap f:=by
 obtain ⟨xs,h1,h2⟩:=h
 exact ⟨xs,h1.chg hc hp,h2.chg hc hp⟩
theorem WyAt.grows {f:Wy} (h:WyAt ok w A cap f) (hg:Grows w w'):WyAt ok w' A cap f:=h.chg (Chg.of_grows (p:=fun _=>False) hg) fun _ _ _ h=>h
theorem WyAt.mono {f:Wy} (h:WyAt ok w A cap f) (ho:∀ b,b < w.heap.size→ok b→ok2 b):WyAt ok2 w A cap f:=by
 obtain ⟨xs,h1,h2⟩:=h
 exact ⟨xs,h1.mono ho,h2.mono ho⟩
theorem WyAt.zero (ok:Nat→Prop) (w:World):WyAt ok w none 0 .nil:=⟨[],SlZ.zero 2 ok w,rfl⟩
end
theorem elemWy:ElemOf Tryz.prog 105 141 2 32:=elemOf_of Tryz.underlying105 (by kernel_rfl) (by kernel_rfl) (z:=.agg #[.int .i64 0,.slice none 0 0]) (by kernel_rfl) rfl (by decide) (by decide)
theorem step_append_grows {P:Program} {ops:Array Oper} {o:Oper} {a:Act} {K:Act→World→Prop} {Q:Exit→Act→World→Prop} {E:Prop} {w:World} {t e:TypeId} {size bytes:Nat} (hE:ElemOf P t e size bytes) (s x:Operand)
  (hgd:o.guard=none) (ho:o.op=.call { callee:=.builtin .append,args:=#[s,x],argTypes:=#[t,t] })
  (ao:Option Addr) (n cap:Nat) (olds:List Value) (hs:a.eval s=.slice ao n cap) (hnone:ao=none→n=0∧cap=0) (hR:Rd w size ao n olds)
  (kb:Nat) (c:Array Value) (hx:a.eval x=.slice (some ⟨kb,0,none⟩) 1 1) (hb:blk w kb=c) (hc:c.size=size) (h1:OneCells c) (hfull:cap < n+1) (hn:n≤1000000)
  (h:∀ v' w',w'.ownsRow w.heap.size e size v' (n+1) (olds++c.toList)→Chg (fun _=>False) w w'→K (a.put o.dst v') w') :
  if Region.wanted o (yielded ops a.tmps)=true then Oper.wp P o a w K Q else E:=by
 obtain ⟨hu,⟨i,z,hi,hz0,hz1,hz2,hz3⟩,hp,hlow⟩:=hE
 have hw:Region.wanted o (yielded ops a.tmps)=true:=by simp [Region.wanted,hgd]
 rw [if_pos hw]
 have hby:(n+1)*bytes≤140737488355328:=by
  have h2:(n+1)*bytes≤(n+1)*100000:=Nat.mul_le_mul_left _ hlow
  omega
 have hnews:=news_blk hb (by omega)
 have hl:c.toList.length=1*size:=by simp [hc]
 have hchg:∀ {w':World},w.grownBy w' none→Chg (fun _=>False) w w':=fun hg=>⟨hg.os,hg.tape,hg.output,hg.size,fun b hb _=>hg.block b hb (by simp)⟩
 cases ao with
 | some b =>
  have holds:∀ j u,olds[j]?=some u→w.cell? (b.add j)=some u:=fun j u hj=>by
   have hn0:0 < n:=by
    have:=hR.1
    rcases Nat.eq_zero_or_pos n with e0 | e0
    ·subst e0
     rw [List.eq_nil_of_length_eq_zero (l:=olds) (by simpa using this)] at hj
     cases hj
    ·exact e0
   obtain ⟨b',f,eq,_,hcell⟩:=hR.2 hn0
   injection eq with eq
   subst eq
   have hadd:(⟨b',f,none⟩:Addr).add j=⟨b',f+j,none⟩:=by unfold Addr.add;split <;> simp_all
   rw [hadd]
   exact hcell j u hj
  obtain ⟨v',w',hrun,r1,r2⟩:=run_append_arg_grows (P:=P) w t o.type e i z size bytes hu hi hz0 hz1 hz2 hz3 hp b n cap olds hR.1 holds ⟨kb,0,none⟩ 1 1 c.toList hl hnews hfull (by unfold maxLen;omega) hby
  unfold Oper.wp
  simp [execOp,ho,resolve,invoke,builtin,hs,hx,hrun,Result.andThen]
  exact h v' w' r1 (hchg r2)
 | none =>
  obtain ⟨rfl,rfl⟩:=hnone rfl
  obtain rfl:olds=[]:=List.eq_nil_of_length_eq_zero (by simpa using hR.1)
  obtain ⟨v',w',hrun,r1,r2,_⟩:=run_append_own (P:=P) w w.heap.size t o.type e i z size bytes hu hi hz0 hz1 hz2 hz3 hp (.slice none 0 0) 0 [] (World.ownsRow_nil w _ e size) ⟨kb,0,none⟩ 1 1 c.toList hl hnews (one_blk h1) (by unfold maxLen;omega) hby (Nat.le_refl _)
  unfold Oper.wp
  simp [execOp,ho,resolve,invoke,builtin,hs,hx,hrun,Result.andThen]
  exact h v' w' r1 (hchg r2)
set_option maxHeartbeats 1000000 in
theorem clip_any (A:Option Addr) (n cap:Nat) (w:World) (hnil:A=none→n=0∧cap=0) (hle:n≤cap) (h63:cap≤9223372036854775807) :
  Calls Tryz.prog 91 #[.slice A n cap] w fun e w'=>e=.returned (.slice A n n)∧w'=w:=by
 cases A with
 | none =>
  obtain ⟨rfl,rfl⟩:=hnil rfl
  go_enter Tryz.func91,Tryz.ntmps91
  go_wp2_with fail
  go_ret
  exact ⟨rfl,rfl⟩
 | some a =>
  obtain ⟨b,o,t⟩:=a
  go_enter Tryz.func91,Tryz.ntmps91
  go_wp2_with fail
  go_ret
  exact ⟨rfl,rfl⟩
end Go.Proofs.YtnjagecmhdagkaaGreatDoor
namespace Go.Proofs.YtnjagecmhdagkaaGreatDoor
open Go.RowKit
def bldSlWy (x:Array (Nat × Value)):Sem Value:=Instr.buildSlice 105 1 x
theorem bldSlWy_eq (x:Array (Nat × Value)):Instr.buildSlice 105 1 x=bldSlWy x:=rfl
theorem bldSlWy_run (w:World) (l:Int) (a:Option Addr) (n c:Nat):(bldSlWy #[(0,.agg #[.int .i64 l,.slice a n c])]).run Tryz.prog w=.ok (.slice (some ⟨w.heap.size,0,none⟩) 1 1) (w.alloc (.cells #[.int .i64 l,.slice a n c] 141)):=by kernel_rfl
theorem wy_one (l:Int) (a:Option Addr) (n c:Nat):OneCells #[.int .i64 l,.slice a n c]:=by
 unfold OneCells
 simp [Value.oneCell']
attribute [local go_sem ↓] bldSlWy_eq
attribute [local go_sem] bldSlWy_run
theorem clip_drew (A:Option Addr) (n cap:Nat) {w w0:World} (hnil:A=none→n=0∧cap=0) (hle:n≤cap) (h63:cap≤9223372036854775807) (_:Grows w w0) :
  Calls Tryz.prog 91 #[.slice A n cap] w0 fun e w'=>e=.returned (.slice A n n)∧w'=w0:=clip_any A n cap w0 hnil hle h63
set_option maxRecDepth 100000 in
set_option maxHeartbeats 4000000 in
theorem and_any {ok:Nat→Prop} (A:Option Addr) (cap:Nat) (ws:Wy) (l:Nat) (kA:Option Addr) (kc:Nat) (kids:Wy) (w:World) (h:WyAt ok w A cap ws) (hk:WyAt ok w kA kc kids) (hf:∀ b,w.heap.size≤b→ok b) (hlen:ws.len≤100000) (hl:l≤100000) :
  Calls Tryz.prog 66 #[.slice A ws.len cap,.agg #[.int .i64 l,.slice kA kids.len kc]] w fun e w'=>∃ A' cap',e=.returned (.slice A' (ws.snoc l kids).len cap')∧WyAt ok w' A' cap' (ws.snoc l kids)∧Grows w w':=by
 obtain ⟨xs,hs,hr⟩:=h
 have hle:=hs.le
 have h63:=hs.cap63
 have hnil:=hs.nil
 have HS:=Lib.hid hs
 have HR:=Lib.hid hr
 have HK:=Lib.hid hk
 have HF:=Lib.hid hf
 have HNIL:=Lib.hid hnil
 clear hs hr hk hf hnil
 go_enter Tryz.func66,Tryz.ntmps66
 go_upto_region 1 with fail
 have hL:=(LaidAt.start w).alloc #[.int .i64 l,.slice kA kids.len kc] 141
 generalize w.alloc (Obj.cells #[.int .i64 l,.slice kA kids.len kc] 141)=w1 at *
 have hb1:blk w1 w.heap.size=#[.int .i64 l,.slice kA kids.len kc]:=hL.blk 0 _ rfl
 have hg1:=hL.grows
 have c0:w1.cell? ⟨w.heap.size,0,none⟩=some (.int .i64 l):=Blk.cell hb1 (by simp) 0
 have c1:w1.cell? ⟨w.heap.size,1,none⟩=some (.slice kA kids.len kc):=Blk.cell hb1 (by simp) 1
 have i0:InHeap w.heap.size w1:=Blk.inHeap hb1 (by simp)
 have HG1:=Lib.hid hg1
 have HRD:Hid (∀ w',Grows w w'→Rd w' 2 A ws.len xs):=Lib.hid fun w' hg=>HS.out.rd.chg (Chg.of_grows (p:=fun _=>False) hg) fun _ _ _ h=>h
 have hn6:ws.len≤1000000:=by omega
 have HFIN:Hid (∀ (w2 w3 w4:World) (v':Value),Grows w w2→w3.ownsRow w2.heap.size 141 2 v' (ws.len+1) (xs++(#[Value.int .i64 l,Value.slice kA kids.len kc]:Array Value).toList)→Chg (fun _=>False) w2 w3→Grows w3 w4→∃ A' cap',v'=.slice A' (ws.snoc l kids).len cap'∧WyAt ok w4 A' cap' (ws.snoc l kids)∧Grows w w4):=Lib.hid (by
  intro w2 w3 w4 v' h1 h2 h3 h4
  obtain ⟨A9,cap9,rfl,g1,g2,g3,g4,g5⟩:=own_rdX h2
  have hg3:Grows w w3:=Chg.grows (n:=0) h1 h3 fun b h=>h.elim
  obtain ⟨ks,k1,k2⟩:=HK.out
  refine ⟨A9,cap9,by rw [Wy.len_snoc],WyAt.grows ⟨xs++[.int .i64 l,.slice kA kids.len kc],⟨by rw [Wy.len_snoc];exact g3,by rw [Wy.len_snoc];exact g4,by rw [Wy.len_snoc];exact g1,g2,fun _ a e=>?_⟩,?_⟩ h4,hg3.trans h4⟩
  ·obtain ⟨b,o,e2,_,_⟩:=g3.2 (by omega)
   subst e2
   cases e
   exact HF.out _ (Nat.le_trans h1.below.size (g5 b o none rfl).2.2.1)
  ·have hc3:Chg (fun _=>False) w w3:=Chg.of_grows hg3
   exact WyRow.snoc (k1.chg hc3 fun _ _ _ h=>h) (k2.chg hc3 fun _ _ _ h=>h) hl (HR.out.chg hc3 fun _ _ _ h=>h))
 clear hL hb1 hg1
 go_region_law (first
  | (go_simp;(with_reducible refine Calls.mono (clip_drew A ws.len cap HNIL.out hle h63 (Grows.refl _)) ?_);rintro e w2 ⟨rfl,hw2⟩;subst hw2;dsimp only)
  | (refine step_append_grows elemWy (.tmp 6) (.tmp 8) (by rfl) (by rfl) A ws.len ws.len xs (by simp [Act.eval,Act.put]) (fun e=>⟨(HNIL.out e).1,(HNIL.out e).1⟩) (HRD.out _ (by repeat' first | exact HG1.out | refine Grows.alloc ?_ _ | refine Grows.drewN ?_ _ | refine Grows.drew ?_)) w1.heap.size #[.int .i64 l,.slice kA kids.len kc] (by simp [Act.eval,Act.put]) (by simp [go_sem]) rfl (wy_one _ _ _ _) (Nat.lt_succ_self _) hn6 ?_;intro v9 w9 hown9 hC9))
 all_goals
  obtain ⟨A9,cap9,rfl,hW9,hG9⟩:=HFIN.out _ w9 w9 v9 (by repeat' first | exact HG1.out | refine Grows.alloc ?_ _ | refine Grows.drewN ?_ _ | refine Grows.drew ?_) hown9 hC9 (Grows.refl _)
  have HW9:=Lib.hid hW9
  clear hown9 hC9 hW9
  go_wp2_with fail
  go_ret
  exact ⟨A9,cap9,rfl,HW9.out,hG9⟩
def srC (s:List UInt8) (fuel spent:Int) (b h:Value):Array Value:=#[.string (tx s),.int .i64 fuel,.int .i64 spent,b,h]
set_option maxHeartbeats 1000000 in
theorem over_any (w:World) (sb:Nat) (s:List UInt8) (fuel:Int) (spent:Nat) (b h:Value) (hb:blk w sb=srC s fuel spent b h) :
  Calls Tryz.prog 44 #[.pointer (some ⟨sb,0,none⟩)] w fun e w'=>e=.returned (.bool (decide (fuel < spent)))∧Grows w w':=by
 have c1:w.cell? ⟨sb,1,none⟩=some (.int .i64 fuel):=Blk.cell hb (by simp [srC]) 1
 have c2:w.cell? ⟨sb,2,none⟩=some (.int .i64 spent):=Blk.cell hb (by simp [srC]) 2
 have ig:InHeap sb w:=Blk.inHeap hb (by simp [srC])
 clear hb
 go_enter Tryz.func44,Tryz.ntmps44
 go_upto_region 1 with fail
 go_quiet (fail)
 go_wp2_with fail
 go_ret
 exact ⟨rfl,by repeat' first | exact Grows.refl _ | refine Grows.drewN ?_ _ | refine Grows.drew ?_⟩
end Go.Proofs.YtnjagecmhdagkaaGreatDoor
