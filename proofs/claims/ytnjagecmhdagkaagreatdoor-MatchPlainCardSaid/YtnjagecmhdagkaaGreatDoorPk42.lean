/-
 Several texts of the proof: Law, Open, OpenBytes, Atoms, MatFit, MatPa.
-/
import Derived.Test.YtnjagecmhdagkaaGreatDoorPk00
import Derived.ProofKit
import Derived.OpenShut
import Derived.Lib.SmallJoins
import Derived.Deep.Fields
import Derived.Test.YtnjagecmhdagkaaGreatDoorPk39
import Derived.Test.YtnjagecmhdagkaaGreatDoorPk40
import Derived.Test.YtnjagecmhdagkaaGreatDoorPk41
set_option linter.unusedSimpArgs false
set_option linter.unusedVariables false
set_option maxRecDepth 3000
/-
  A law's last step, once for all laws of the seat: a law whose call returns true and turns nothing that was there keeps its row.
-/
namespace Go.Proofs.YtnjagecmhdagkaaGreatDoor
open Go.ChangeShapes Go.WideShapes Go.ChangeAt Go.RowKit
theorem Tryz.own:ownKnob Tryz.prog.godebug=none:=by kernel_rfl
theorem Tryz.laidOut:laidOutB Tryz.prog=true:=by kernel_rfl
section
variable {H:Type} {enc:TypeId × Value→H}
theorem trodAll_stays {W W':World} (hb:Below W.heap.size W W') {sp:Nat→Bool} (ts:List TypeId):∀ {vs:List Value} {ds:List (DataW H)} {ps:List MemPlace},
  ts.all (fun t=>Tryz.prog.readableRec t && decide (t < Tryz.prog.types.size))=true→DataW.TrodAll enc Tryz.prog W 0 (fun _=>true) true ts vs ds ps →
  (∀ p ∈ ps,p.block < W.heap.size)→(∀ p ∈ ps,sp p.block=true)→DataW.TrodAll enc Tryz.prog W' 0 sp true ts vs ds ps:=by
 induction ts with
 | nil =>
  intro vs ds ps _ h _ _
  cases vs with
  | nil=>cases ds with
   | nil=>exact h
   | cons _ _=>exact h.elim
  | cons _ _=>exact h.elim
 | cons t ts ih =>
  intro vs ds ps hr h hlt hsp
  cases vs with
  | nil=>exact h.elim
  | cons v vs =>
   cases ds with
   | nil=>exact h.elim
   | cons d ds =>
    obtain ⟨p,q,h1,h2,rfl⟩:=h
    simp only [List.all_cons,Bool.and_eq_true,decide_eq_true_eq] at hr
    exact ⟨p,q,WideElems.Trod_stays Tryz.laidOut hr.1.1 hr.1.2 h1 (fun x hx=>hb.same (hlt x (by simp [hx]))) (fun x hx=>hsp x (by simp [hx])),
     ih hr.2 h2 (fun x hx=>hlt x (by simp [hx])) (fun x hx=>hsp x (by simp [hx])),rfl⟩
end
end Go.Proofs.YtnjagecmhdagkaaGreatDoor
namespace Go.Proofs.YtnjagecmhdagkaaGreatDoor
open Go.ChangeShapes Go.WideShapes Go.ChangeAt Go.RowKit Go.Joins
theorem i64_wf {n:Int} (h:(Lit.int .i64 n).wf=true):I64 n:=by
 simp [Lit.wf,IntKind.min,IntKind.max,IntKind.bits,IntKind.signed] at h
 exact ⟨by omega,by omega⟩
section
variable {H:Type} {enc:TypeId × Value→H} {P:Program} {W:World} {base b0:Nat} {spare:Nat→Bool} {held:Bool}
end
end Go.Proofs.YtnjagecmhdagkaaGreatDoor
namespace Go.Proofs.YtnjagecmhdagkaaGreatDoor
open Go.ChangeShapes Go.WideShapes Go.ChangeAt Go.RowKit Go.Joins
structure CameBytes (w:World) (A:Option Addr) (cap:Nat) (ns:List Int):Prop where
 rd:Rd w 1 A ns.length (ns.map (Value.int .u8))
 nil:A=none→ns.length=0∧cap=0
 len:ns.length≤9223372036854775807
 each:∀ n ∈ ns,0≤n∧n≤255
theorem CameBytes.grows {w w':World} {A:Option Addr} {cap:Nat} {ns:List Int} (h:CameBytes w A cap ns) (hg:Grows w w'):CameBytes w' A cap ns:=⟨h.1.grows hg,h.2,h.3,h.4⟩
section
variable {H:Type} {enc:TypeId × Value→H} {W:World} {base b0:Nat} {spare:Nat→Bool} {held:Bool}
end
end Go.Proofs.YtnjagecmhdagkaaGreatDoor
namespace Go.Proofs.YtnjagecmhdagkaaGreatDoor
open Go.ChangeShapes Go.WideShapes Go.ChangeAt Go.RowKit Go.Joins
structure Atom3 where
 c:Nat
 any:Bool
 star:Bool
def Atom3.cells (s:Atom3):List Value:=[.int .u8 (s.c:Int),.bool s.any,.bool s.star]
structure CameAtoms (w:World) (A:Option Addr) (cap:Nat) (L:List Atom3):Prop where
 rd:Rd w 3 A L.length (L.flatMap Atom3.cells)
 len:L.length≤9223372036854775807
 each:∀ s ∈ L,s.c≤255
 nil:A=none→L.length=0∧cap=0
theorem CameAtoms.grows {w w':World} {A:Option Addr} {cap:Nat} {L:List Atom3} (h:CameAtoms w A cap L) (hg:Grows w w'):CameAtoms w' A cap L:=⟨h.1.grows hg,h.2,h.3,h.4⟩
section
variable {H:Type} {enc:TypeId × Value→H} {W:World} {base b0:Nat} {spare:Nat→Bool} {held:Bool}
end
end Go.Proofs.YtnjagecmhdagkaaGreatDoor
namespace Go.Proofs.YtnjagecmhdagkaaGreatDoor
open Go.RowKit
def BA (n:Nat) (p:Nat→Bool):Array Value:=Array.ofFn fun i:Fin n=>Value.bool (p i)
theorem BA_size (n:Nat) (p:Nat→Bool):(BA n p).size=n:=by simp [BA]
theorem BA_get {n:Nat} {p:Nat→Bool} {k:Nat} (h:k < n):(BA n p)[k]?=some (.bool (p k)):=by simp [BA,Array.getElem?_ofFn,h]
theorem BA_ext {n:Nat} {p q:Nat→Bool} (h:∀ k,k < n→p k=q k):BA n p=BA n q:=by
 apply Array.ext_getElem?
 intro k
 by_cases hk:k < n
 ·rw [BA_get hk,BA_get hk,h k hk]
 ·rw [Array.getElem?_eq_none (by rw [BA_size];omega),Array.getElem?_eq_none (by rw [BA_size];omega)]
theorem BA_set {n:Nat} {p:Nat→Bool} (k:Nat) (v:Bool):(BA n p).setIfInBounds k (.bool v)=BA n fun j=>if j=k then v else p j:=by
 apply Array.ext_getElem?
 intro j
 rw [Array.getElem?_setIfInBounds,BA_size]
 by_cases hj:j < n
 ·rw [BA_get (p:=fun j=>if j=k then v else p j) hj,BA_get hj]
  by_cases e:k=j
  ·subst e;simp [hj]
  ·rw [if_neg e,if_neg fun h=>e h.symm]
 ·rw [Array.getElem?_eq_none (xs:=BA n fun j=>if j=k then v else p j) (by rw [BA_size];omega),Array.getElem?_eq_none (xs:=BA n p) (by rw [BA_size];omega)]
  by_cases e:k=j
  ·subst e;simp [hj]
  ·rw [if_neg e]
theorem infoB:(Tryz.prog.info? 4).map (fun i=>(i.zero,i.size,i.bytes))=some (some (.bool false),1,1):=by kernel_rfl
theorem made_bools (n:Nat):madeCells #[Value.bool false] n=BA n (fun _=>false):=by
 apply Array.ext_getElem?
 intro j
 by_cases hj:j < n
 ·rw [BA_get hj]
  simp [madeCells,Array.getElem?_ofFn,hj,Nat.mod_one]
 ·rw [Array.getElem?_eq_none (xs:=BA n _) (by rw [BA_size];omega)]
  simp [madeCells,Array.getElem?_ofFn,hj]
theorem make_bools (n:Nat) (h:n≤1000000) (w:World):(Instr.makeSlice 77 (.int .i64 ((n:Int)+1)) (.int .i64 ((n:Int)+1))).run Tryz.prog w=.ok (.slice (some ⟨w.heap.size,0,none⟩) (n+1) (n+1)) (w.alloc (.cells (BA (n+1) fun _=>false) 4)):=by
 have hq:=infoB
 cases hi:Tryz.prog.info? 4 with
 | none=>rw [hi] at hq;cases hq
 | some i0 =>
 rw [hi] at hq
 simp only [Option.map_some,Option.some.injEq,Prod.mk.injEq] at hq
 obtain ⟨hz0,hz1,hz2⟩:=hq
 have:=run_make (P:=Tryz.prog) w 77 4 i0 _ Tryz.underlying77 hi hz0 .i64 .i64 ((n:Int)+1) ((n:Int)+1) (by omega) (by omega) (by rw [hz2];omega) (by omega)
 rw [hz1] at this
 rw [this]
 have e:((n:Int)+1).toNat=n+1:=by omega
 rw [e,Nat.mul_one]
 rw [show (Value.bool false).cells=#[Value.bool false] from rfl,made_bools]
theorem put_bool {w:World} {g n:Nat} {p:Nat→Bool} (h:blk w g=BA n p) (hn:0 < n) (k:Nat) (v:Bool):blk (w.setCell ⟨g,k,none⟩ (.bool v)) g=BA n (fun j=>if j=k then v else p j):=by
 rw [← BA_set]
 exact pa_put h (by rw [BA_size];exact hn) k (.bool v)
attribute [local go_sem] tx_bt
end Go.Proofs.YtnjagecmhdagkaaGreatDoor
namespace Go.Proofs.YtnjagecmhdagkaaGreatDoor
open Go.RowKit
def nodeT (s:List UInt8) (x:NdV) (k:Fr) (a d:Nat):Pl :=
 if x.kind=7 then endsF s k a
 else if x.kind=8 then turnsS s.length x (endsF s k) a d
 else match oneV x s a spZero with
  | none=>fun _=>false
  | some m=>one1 (a+m)
theorem nodeT_zero (s:List UInt8) (x:NdV) (k:Fr) (a:Nat):nodeT s x k a 0=nodeS s x (endsF s k) a:=rfl
def idsV:Fr→Nat→List Value
 | .nil,_=>[]
 | .cons _ k r,m=>.int .i64 m::idsV r (m+1+k.size)
theorem idsV_len:∀ (f:Fr) (m:Nat),(idsV f m).length=f.len
 | .nil,_=>rfl
 | .cons x k r,m=>by simp [idsV,Fr.len,idsV_len r]
theorem idsV_app:∀ (a c:Fr) (m:Nat),idsV (a.app c) m=idsV a m++idsV c (m+a.size)
 | .nil,c,m=>by simp [idsV,Fr.app,Fr.size]
 | .cons x k r,c,m=>by
  simp only [idsV,Fr.app,Fr.size,List.cons_append,idsV_app r c]
  congr 3
  omega
def dfA (C:Array Value) (k:Value):Array Value:=C++#[k]
theorem dfA_size {C:Array Value} {k:Value} (h:C.size=262):(dfA C k).size=263:=by simp [dfA,h]
theorem dfA_lt {C:Array Value} {k:Value} (h:C.size=262) {j:Nat} (hj:j < 262):(dfA C k)[j]?=C[j]?:=by
 unfold dfA
 rw [Array.getElem?_append_left (by omega)]
theorem dfA_262 {C:Array Value} {k:Value} (h:C.size=262):(dfA C k)[262]?=some k:=by
 unfold dfA
 rw [Array.getElem?_append_right (by omega),h]
 rfl
abbrev dfC (x:NdV) (K I:Value):Array Value:=dfA (ndC x K) I
theorem dfC_size (x:NdV) (K I:Value):(dfC x K I).size=263:=dfA_size (ndA_size _ _ _ _ _ _ _)
def FlRow (ok:Nat→Prop) (w:World):Fr→Nat→List Value→Prop
 | .nil,_,xs=>xs=[]
 | .cons x k r,m,xs=>∃ (K:Option Addr) (kc:Nat) (I:Option Addr) (ic:Nat) (ys zs:List Value),xs=(dfC x (.slice K k.len kc) (.slice I k.len ic)).toList++(ys++zs)∧SlZ 1 ok w I ic k.len (idsV k (m+1))∧FrAt ok w K kc k∧FlRow ok w k (m+1) ys∧FlRow ok w r (m+1+k.size) zs
section
variable {ok ok2 q:Nat→Prop} {w w':World}
theorem FlRow.chg (hc:Chg q w w') (hp:∀ b,b < w.heap.size→ok b→¬ q b):∀ {f:Fr} {m:Nat} {xs:List Value},FlRow ok w f m xs→FlRow ok w' f m xs
 | .nil,_,_,h=>h
 | .cons _ _ _,_,_,⟨K,kc,I,ic,ys,zs,e,h1,h2,h3,h4⟩=>⟨K,kc,I,ic,ys,zs,e,h1.chg hc hp,h2.chg hc hp,h3.chg hc hp,h4.chg hc hp⟩
theorem FlRow.mono (ho:∀ b,b < w.heap.size→ok b→ok2 b):∀ {f:Fr} {m:Nat} {xs:List Value},FlRow ok w f m xs→FlRow ok2 w f m xs
 | .nil,_,_,h=>h
 | .cons _ _ _,_,_,⟨K,kc,I,ic,ys,zs,e,h1,h2,h3,h4⟩=>⟨K,kc,I,ic,ys,zs,e,h1.mono ho,h2.mono ho,h3.mono ho,h4.mono ho⟩
theorem FlRow.len:∀ {f:Fr} {m:Nat} {xs:List Value},FlRow ok w f m xs→xs.length=f.size*263
 | .nil,_,xs,h=>by cases h;rfl
 | .cons x k r,m,xs,⟨K,kc,I,ic,ys,zs,e,h1,h2,h3,h4⟩=>by
  have a1:=FlRow.len h3
  have a2:=FlRow.len h4
  have a3:=dfC_size x (.slice K k.len kc) (.slice I k.len ic)
  rw [← Array.length_toList] at a3
  obtain ⟨Z,hZ⟩:∃ z,(dfC x (.slice K k.len kc) (.slice I k.len ic)).toList=z:=⟨_,rfl⟩
  rw [hZ] at e a3
  rw [e,List.length_append,List.length_append,a3,a1,a2]
  simp only [Fr.size]
  omega
theorem FlRow.app {c:Fr} {ys:List Value}:∀ {a:Fr} {m:Nat} {xs:List Value},FlRow ok w a m xs→FlRow ok w c (m+a.size) ys→FlRow ok w (a.app c) m (xs++ys)
 | .nil,m,xs,h,hc=>by cases h;simpa [Fr.size,Fr.app] using hc
 | .cons x k r,m,xs,⟨K,kc,I,ic,us,zs,e,h1,h2,h3,h4⟩,hc=>⟨K,kc,I,ic,us,zs++ys,by rw [e];simp only [List.append_assoc],h1,h2,h3,FlRow.app h4 (by
  have e:m+1+k.size+r.size=m+(Fr.cons x k r).size:=by simp only [Fr.size];omega
  rw [e];exact hc)⟩
theorem FlRow.nth:∀ {f:Fr} {m:Nat} {xs:List Value} {i:Nat} {x:NdV} {k:Fr},FlRow ok w f m xs→nthF f i=some (x,k)→∃ (K:Option Addr) (kc:Nat) (I:Option Addr) (ic:Nat),
  (∀ j u,(dfC x (.slice K k.len kc) (.slice I k.len ic))[j]?=some u→xs[i*263+j]?=some u)∧SlZ 1 ok w I ic k.len (idsV k (m+i+1))∧FrAt ok w K kc k
 | .nil,_,_,_,_,_,_,hn=>by cases hn
 | .cons x0 k0 r,m,xs,i,x,k,⟨K,kc,I,ic,ys,zs,e,h1,h2,h3,h4⟩,hn=>by
  have a3:=dfC_size x0 (.slice K k0.len kc) (.slice I k0.len ic)
  have hlt:∀ j u,(dfC x0 (.slice K k0.len kc) (.slice I k0.len ic))[j]?=some u→j < 263:=fun j u hu=>by
   have:=(Array.getElem?_eq_some_iff.1 hu).1
   omega
  have hz:(dfC x0 (.slice K k0.len kc) (.slice I k0.len ic)).toList.length=263:=by rw [Array.length_toList];exact a3
  have hy:=h3.len
  simp only [nthF] at hn
  split at hn
  ·rename_i h0
   subst h0
   injection hn with hn
   injection hn with e1 e2
   subst e1
   subst e2
   refine ⟨K,kc,I,ic,fun j u hu=>?_,h1,h2⟩
   have hj:=hlt j u hu
   rw [← Array.getElem?_toList] at hu
   rw [e,Nat.zero_mul,Nat.zero_add,List.getElem?_append_left (by omega)]
   exact hu
  ·rename_i h0
   obtain ⟨Z,hZ⟩:∃ z,(dfC x0 (.slice K k0.len kc) (.slice I k0.len ic)).toList=z:=⟨_,rfl⟩
   rw [hZ] at e hz
   split at hn
   ·rename_i hk
    obtain ⟨K',kc',I',ic',g1,g2,g3⟩:=FlRow.nth h3 hn
    refine ⟨K',kc',I',ic',fun j u hu=>?_,by rw [show m+i+1=m+1+(i - 1)+1 by omega];exact g2,g3⟩
    have:=g1 j u hu
    have hb:=(List.getElem?_eq_some_iff.1 this).1
    rw [e,List.getElem?_append_right (by omega),hz,List.getElem?_append_left (by omega),show i*263+j - 263=(i - 1)*263+j by omega]
    exact this
   ·rename_i hk
    obtain ⟨K',kc',I',ic',g1,g2,g3⟩:=FlRow.nth h4 hn
    refine ⟨K',kc',I',ic',fun j u hu=>?_,by rw [show m+i+1=m+1+k0.size+(i - 1 - k0.size)+1 by omega];exact g2,g3⟩
    have:=g1 j u hu
    rw [e,List.getElem?_append_right (by omega),hz,List.getElem?_append_right (by omega),hy,show i*263+j - 263 - k0.size*263=(i - 1 - k0.size)*263+j by omega]
    exact this
end
theorem own_setX {w:World} {b0 n g cap z:Nat} {e:TypeId} {xs:List Value} (h:w.ownsRow b0 e z (.slice (some ⟨g,0,none⟩) n cap) n xs) (j:Nat) (u:Value):(w.setCell ⟨g,j,none⟩ u).ownsRow b0 e z (.slice (some ⟨g,0,none⟩) n cap) n (xs.set j u):=by
 obtain ⟨h1,h2⟩:=h
 refine ⟨by rw [List.length_set];exact h1,.inr ?_⟩
 rcases h2 with ⟨h2,_⟩ | ⟨g',cap',cur,e1,h3,h4,h5,h6,h7,h8⟩
 ·cases h2
 ·injection e1 with e1 e2 e3
  injection e1 with e1
  injection e1 with e1
  subst e1
  subst e3
  refine ⟨g,cap,cur.setIfInBounds j u,rfl,h3,?_,h5,h6,by rw [Array.size_setIfInBounds];exact h7,?_⟩
  ·show (w.heap.modify g _)[g]?=_
   rw [Array.getElem?_modify,if_pos rfl,h4]
   rfl
  ·rw [Array.toList_setIfInBounds,List.take_set,h8]
theorem own_cellX {w:World} {b0 n g cap j z:Nat} {e:TypeId} {xs:List Value} {u:Value} (h:w.ownsRow b0 e z (.slice (some ⟨g,0,none⟩) n cap) n xs) (hu:xs[j]?=some u):w.cell? ⟨g,j,none⟩=some u∧w.frozen? ⟨g,j,none⟩=false:=by
 have hl:=h.1
 have hj:=(List.getElem?_eq_some_iff.1 hu).1
 obtain ⟨A,c,e1,_,_,hR,_,_⟩:=own_rdX h
 injection e1 with e1 e2 e3
 subst e1
 obtain ⟨b,o,e4,hb,hc⟩:=hR.2 (by
  rcases Nat.eq_zero_or_pos n with h0 | h0
  ·rw [h0,Nat.zero_mul] at hl;omega
  ·exact h0)
 injection e4 with e4
 injection e4 with e4 e5
 subst e4
 subst e5
 have:=hc j u hu
 rw [Nat.zero_add] at this
 refine ⟨this,?_⟩
 rcases h.2 with ⟨h2,_⟩ | ⟨g',cap',cur,e1,h3,h4,h5,h6,h7,h8⟩
 ·cases h2
 ·injection e1 with e1 e2 e3
  injection e1 with e1
  injection e1 with e1
  subst e1
  unfold World.frozen?
  rw [h4]
  simp
def DtMemo (s:List UInt8) (x:NdV) (k:Fr) (ow:Nat→Nat) (w:World) (j:Nat) (u:Value):Prop :=
 u=.slice none 0 0∨∃ b,u=.slice (some ⟨b,0,none⟩) (s.length+1) (s.length+1)∧ow b=1∧blk w b=BA (s.length+1) (turnsS s.length x (endsF s k) (j % (s.length+1)) (j / (s.length+1)))
def DtRow (s:List UInt8) (x:NdV) (k:Fr) (ow:Nat→Nat) (w:World) (i:Nat) (v:Value):Prop :=
 ∃ m ys,w.ownsRow 0 77 1 v m ys∧(∀ b,v.ownBlock=some b→ow b=i+3)∧∀ j u,ys[j]?=some u→DtMemo s x k ow w j u
structure DtAt (s:List UInt8) (f:Fr) (tb:Nat) (ow:Nat→Nat) (w:World):Prop where
 old:∀ b,ow b≠0→b < w.heap.size
 one:ow tb=1
 tab:∃ (LA:Option Addr) (lc:Nat) (EA:Option Addr) (ec:Nat) (xs vs:List Value),blk w tb=#[.string (tx s),.slice LA f.size lc,.slice EA f.size ec]∧SlZ 263 (fun b=>ow b=1) w LA lc f.size xs∧FlRow (fun b=>ow b=1) w f 0 xs ∧
  w.ownsRow 0 153 1 (.slice EA f.size ec) f.size vs∧(∀ b,(Value.slice EA f.size ec).ownBlock=some b→ow b=2)∧∀ i x k,nthF f i=some (x,k)→∃ v,vs[i]?=some v∧DtRow s x k ow w i v
section
variable {s:List UInt8} {f:Fr} {tb:Nat} {ow ow2 ow3:Nat→Nat} {w w' w3:World} {p:Nat→Prop}
theorem ba_pos (n:Nat) (P:Nat→Bool):0 < (BA (n+1) P).size:=by rw [BA_size];omega
theorem DtMemo.chg {x:NdV} {k:Fr} {j:Nat} {u:Value} (h:DtMemo s x k ow w j u) (hc:Chg p w w') (hp:∀ b,p b→ow b≠1) (ho:∀ b,b < w.heap.size→ow b=1→ow2 b=1):DtMemo s x k ow2 w' j u:=by
 rcases h with h | ⟨b,h1,h2,h3⟩
 ·exact .inl h
 ·have hb:b < w.heap.size:=Blk.inHeap h3 (ba_pos _ _)
  exact .inr ⟨b,h1,ho b hb h2,(chg_blk hc hb fun e=>hp b e h2).trans h3⟩
theorem DtRow.chg {x:NdV} {k:Fr} {i:Nat} {v:Value} (h:DtRow s x k ow w i v) (hc:Chg p w w') (hp:∀ b,p b→ow b≠1∧ow b≠i+3) (ho:∀ b,b < w.heap.size→(ow b=1∨ow b=i+3)→ow2 b=ow b):DtRow s x k ow2 w' i v:=by
 obtain ⟨m,ys,h1,h2,h3⟩:=h
 exact ⟨m,ys,own_chgX h1 hc fun b hb e=>(hp b e).2 (h2 b hb),fun b hb=>by rw [ho b (own_ltX h1 hb).1 (.inr (h2 b hb))];exact h2 b hb,fun j u hu=>(h3 j u hu).chg hc (fun b e=>(hp b e).1) fun b hb e=>by rw [ho b hb (.inl e)];exact e⟩
theorem DtAt.chg (h:DtAt s f tb ow w) (hc:Chg p w w') (hp:∀ b,p b→ow b=0):DtAt s f tb ow w':=by
 obtain ⟨h1,h2,LA,lc,EA,ec,xs,vs,h3,h4,h5,h6,h7,h8⟩:=h
 have hq:∀ b,b < w.heap.size→ow b=1→¬ p b:=fun b _ h e=>by have:=hp b e;omega
 refine ⟨fun b hb=>Nat.lt_of_lt_of_le (h1 b hb) hc.size,h2,LA,lc,EA,ec,xs,vs,(chg_blk hc (Blk.inHeap h3 (by simp)) (hq _ (Blk.inHeap h3 (by simp)) h2)).trans h3,h4.chg hc hq,h5.chg hc hq,own_chgX h6 hc fun b hb e=>by have:=hp b e;have:=h7 b hb;omega,h7,fun i x k hn=>?_⟩
 obtain ⟨v,g1,g2⟩:=h8 i x k hn
 exact ⟨v,g1,g2.chg hc (fun b e=>by have:=hp b e;omega) fun _ _ _=>rfl⟩
theorem DtAt.grows (h:DtAt s f tb ow w) (hg:Grows w w'):DtAt s f tb ow w':=h.chg (Chg.of_grows (p:=fun _=>False) hg) fun _ h=>h.elim
structure ClNext (ow ow2:Nat→Nat) (w w':World):Prop where
 chg:Chg (fun b=>2≤ow b) w w'
 same:∀ b,b < w.heap.size→ow2 b=ow b
theorem ClNext.refl (ow:Nat→Nat) (w:World):ClNext ow ow w w:=⟨Chg.refl _ _,fun _ _=>rfl⟩
theorem ClNext.of_grows (ow:Nat→Nat) (h:Grows w w'):ClNext ow ow w w':=⟨Chg.of_grows h,fun _ _=>rfl⟩
theorem ClNext.trans (h:ClNext ow ow2 w w') (k:ClNext ow2 ow3 w' w3):ClNext ow ow3 w w3:=by
 refine ⟨?_,fun b hb=>(k.same b (Nat.lt_of_lt_of_le hb h.chg.size)).trans (h.same b hb)⟩
 refine ⟨k.chg.os.trans h.chg.os,k.chg.tape.trans h.chg.tape,k.chg.output.trans h.chg.output,Nat.le_trans h.chg.size k.chg.size,fun b hb hp=>?_⟩
 rw [k.chg.block b (Nat.lt_of_lt_of_le hb h.chg.size) (by rw [h.same b hb];exact hp)]
 exact h.chg.block b hb hp
theorem ClNext.blk (h:ClNext ow ow2 w w') {b:Nat} {c:Array Value} (hb:blk w b=c) (hc:0 < c.size) (ho:ow b≤1):Go.Proofs.YtnjagecmhdagkaaGreatDoor.blk w' b=c:=(chg_blk h.chg (Blk.inHeap hb hc) (by omega)).trans hb
theorem ClNext.own (h:ClNext ow ow2 w w') (hc:Chg p w' w3) (hp:∀ b,p b→w.heap.size≤b):ClNext ow ow2 w w3 :=
 ⟨⟨hc.os.trans h.chg.os,hc.tape.trans h.chg.tape,hc.output.trans h.chg.output,Nat.le_trans h.chg.size hc.size,fun b hb hq=>by
  rw [hc.block b (Nat.lt_of_lt_of_le hb h.chg.size) fun e=>by have:=hp b e;omega]
  exact h.chg.block b hb hq⟩,h.same⟩
theorem ClNext.ok (h:ClNext ow ow2 w w'):(∀ b,b < w.heap.size→(ow b=1)→(ow b=1∧b < w.heap.size))∧(∀ b,b < w.heap.size→(ow b=1∧b < w.heap.size)→¬ (2≤ow b))∧(∀ b,b < w'.heap.size→(ow b=1∧b < w.heap.size)→ow2 b=1) :=
 ⟨fun b hb ho=>⟨ho,hb⟩,fun b _ ho=>by omega,fun b _ ho=>by rw [h.same b ho.2];exact ho.1⟩
theorem FlRow.next {l:Fr} {m:Nat} {xs:List Value} (hl:FlRow (fun b=>ow b=1) w l m xs) (h:ClNext ow ow2 w w'):FlRow (fun b=>ow2 b=1) w' l m xs:=((hl.mono h.ok.1).chg h.chg h.ok.2.1).mono h.ok.2.2
theorem SlZ.next {z n cap:Nat} {A:Option Addr} {xs:List Value} (hl:SlZ z (fun b=>ow b=1) w A cap n xs) (h:ClNext ow ow2 w w'):SlZ z (fun b=>ow2 b=1) w' A cap n xs:=((hl.mono h.ok.1).chg h.chg h.ok.2.1).mono h.ok.2.2
theorem FrAt.next {l:Fr} {cap:Nat} {A:Option Addr} (hl:FrAt (fun b=>ow b=1) w A cap l) (h:ClNext ow ow2 w w'):FrAt (fun b=>ow2 b=1) w' A cap l:=((hl.mono h.ok.1).chg h.chg h.ok.2.1).mono h.ok.2.2
def LenGe (w:World) (tb j m:Nat):Prop:=∃ eb n ec A c m',w.cell? ⟨tb,2,none⟩=some (.slice (some ⟨eb,0,none⟩) n ec)∧w.cell? ⟨eb,j,none⟩=some (.slice A m' c)∧m≤m'
def LenUp (f:Fr) (tb:Nat) (w w':World):Prop:=∀ j y,nthF f j=some y→∀ m,LenGe w tb j m→LenGe w' tb j m
theorem LenUp.refl (f:Fr) (tb:Nat) (w:World):LenUp f tb w w:=fun _ _ _ _ h=>h
theorem LenUp.trans (h:LenUp f tb w w') (k:LenUp f tb w' w3):LenUp f tb w w3:=fun j y hn m hm=>k j y hn m (h j y hn m hm)
theorem LenUp.of_grows (f:Fr) (tb:Nat) (h:Grows w w'):LenUp f tb w w':=fun j y _ m ⟨eb,n,ec,A,c,m',h1,h2,h3⟩=>⟨eb,n,ec,A,c,m',cellG h1 h,cellG h2 h,h3⟩
structure DtNext (f:Fr) (tb:Nat) (ow ow2:Nat→Nat) (w w':World):Prop where
 cl:ClNext ow ow2 w w'
 len:LenUp f tb w w'
theorem DtNext.refl (f:Fr) (tb:Nat) (ow:Nat→Nat) (w:World):DtNext f tb ow ow w w:=⟨ClNext.refl _ _,LenUp.refl _ _ _⟩
theorem DtNext.of_grows (f:Fr) (tb:Nat) (ow:Nat→Nat) (h:Grows w w'):DtNext f tb ow ow w w':=⟨ClNext.of_grows _ h,LenUp.of_grows _ _ h⟩
theorem DtNext.trans (h:DtNext f tb ow ow2 w w') (k:DtNext f tb ow2 ow3 w' w3):DtNext f tb ow ow3 w w3:=⟨h.cl.trans k.cl,h.len.trans k.len⟩
theorem DtNext.blk (h:DtNext f tb ow ow2 w w') {b:Nat} {c:Array Value} (hb:blk w b=c) (hc:0 < c.size) (ho:ow b≤1):Go.Proofs.YtnjagecmhdagkaaGreatDoor.blk w' b=c:=h.cl.blk hb hc ho
structure DtNode (f:Fr) (tb:Nat) (ow:Nat→Nat) (w:World) (i:Nat) (x:NdV) (k:Fr) (lb lo lc:Nat) (K:Option Addr) (kc:Nat) (I:Option Addr) (ic:Nat):Prop where
 list:w.cell? ⟨tb,1,none⟩=some (.slice (some ⟨lb,lo,none⟩) f.size lc)
 cells:∀ j u,(dfC x (.slice K k.len kc) (.slice I k.len ic))[j]?=some u→w.cell? ⟨lb,lo+(i*263+j),none⟩=some u
 ids:SlZ 1 (fun b=>ow b=1) w I ic k.len (idsV k (i+1))
 kids:FrAt (fun b=>ow b=1) w K kc k
 low:ow lb=1
 inh:lb < w.heap.size
theorem DtAt.node (h:DtAt s f tb ow w) {i:Nat} {x:NdV} {k:Fr} (hn:nthF f i=some (x,k)):∃ lb lo lc K kc I ic,DtNode f tb ow w i x k lb lo lc K kc I ic:=by
 obtain ⟨h1,h2,LA,lc,EA,ec,xs,vs,h3,h4,h5,h6,h7,h8⟩:=h
 obtain ⟨K,kc,I,ic,g1,g2,g3⟩:=h5.nth hn
 have hp:0 < f.size:=Nat.lt_of_le_of_lt (Nat.zero_le _) (nthF_lt hn)
 obtain ⟨lb,lo,rfl,q1,q2⟩:=h4.rd.2 hp
 exact ⟨lb,lo,lc,K,kc,I,ic,Blk.cell h3 (by simp) 1,fun j u hu=>q2 _ u (g1 j u hu),by rw [show i+1=0+i+1 by omega];exact g2,g3,h4.ok hp _ rfl,q1⟩
theorem DtAt.str (h:DtAt s f tb ow w):w.cell? ⟨tb,0,none⟩=some (.string (tx s))∧tb < w.heap.size:=by
 obtain ⟨h1,h2,LA,lc,EA,ec,xs,vs,h3,_⟩:=h
 exact ⟨Blk.cell h3 (by simp) 0,Blk.inHeap h3 (by simp)⟩
structure DtEnds (f:Fr) (tb:Nat) (ow:Nat→Nat) (w:World) (i:Nat) (eb ec:Nat) (v:Value) (m:Nat) (ys:List Value):Prop where
 list:w.cell? ⟨tb,2,none⟩=some (.slice (some ⟨eb,0,none⟩) f.size ec)
 cell:w.cell? ⟨eb,i,none⟩=some v
 free:w.frozen? ⟨eb,i,none⟩=false
 row:w.ownsRow 0 77 1 v m ys
 low:ow eb=2
 inh:eb < w.heap.size
theorem DtAt.ends (h:DtAt s f tb ow w) {i:Nat} {x:NdV} {k:Fr} (hn:nthF f i=some (x,k)):∃ eb ec v m ys,DtEnds f tb ow w i eb ec v m ys∧(∀ b,v.ownBlock=some b→ow b=i+3)∧∀ j u,ys[j]?=some u→DtMemo s x k ow w j u:=by
 obtain ⟨h1,h2,LA,lc,EA,ec,xs,vs,h3,h4,h5,h6,h7,h8⟩:=h
 obtain ⟨v,g1,m,ys,g2,g3,g4⟩:=h8 i x k hn
 have hp:0 < f.size:=Nat.lt_of_le_of_lt (Nat.zero_le _) (nthF_lt hn)
 obtain ⟨eb,cap,e,_,hb⟩:=h6.form hp
 injection e with e e2 e3
 subst e
 subst e3
 obtain ⟨c1,c2⟩:=own_cellX h6 g1
 exact ⟨eb,ec,v,m,ys,⟨Blk.cell h3 (by simp) 2,c1,c2,g2,h7 eb rfl,hb⟩,g3,g4⟩
theorem DtAt.putRow (h:DtAt s f tb ow w) {i:Nat} {x:NdV} {k:Fr} (hn:nthF f i=some (x,k)) {eb ec:Nat} {v v2:Value} {m m2:Nat} {ys ys2:List Value} (hE:DtEnds f tb ow w i eb ec v m ys) {e9:Nat}
  (hown:w'.ownsRow 0 77 1 v2 m2 ys2) (hc:Chg (fun b=>v.ownBlock=some b) w w') (hv2:v2.ownBlock=some e9) (he:v.ownBlock=some e9∨w.heap.size≤e9) (hv:∀ b,v.ownBlock=some b→ow b=i+3)
  (hys:∀ j u,ys2[j]?=some u→DtMemo s x k ow w j u) (hmm:m≤m2) :
  DtAt s f tb (fun b=>if b=e9 then i+3 else ow b) (w'.setCell ⟨eb,i,none⟩ v2)∧DtNext f tb ow (fun b=>if b=e9 then i+3 else ow b) w (w'.setCell ⟨eb,i,none⟩ v2):=by
 have hlt9:e9 < w'.heap.size:=(own_ltX hown hv2).1
 have he9:e9 < w.heap.size→ow e9=i+3:=fun hb=>by
  rcases he with he | he
  ·exact hv _ he
  ·omega
 have hsame:∀ b,b < w.heap.size→(if b=e9 then i+3 else ow b)=ow b:=fun b hb=>by
  split
  ·rename_i e;subst e;exact (he9 hb).symm
  ·rfl
 have hC2:Chg (fun b=>b=eb) w' (w'.setCell ⟨eb,i,none⟩ v2):=chg_cell _ _ _ _
 have heb:=hE.low
 have hebw:=hE.inh
 have hce:∀ b,v.ownBlock=some b→b≠eb:=fun b hb e=>by have:=hv b hb;rw [e,heb] at this;omega
 have hChg:Chg (fun b=>b=eb∨v.ownBlock=some b) w (w'.setCell ⟨eb,i,none⟩ v2):=(hc.mono fun b _ h=>.inr h).trans (hC2.mono fun b _ h=>.inl h)
 have htw:=h.str.2
 have hto:=h.one
 have heb':¬ v.ownBlock=some eb:=fun e=>hce eb e rfl
 have htb':¬ (tb=eb∨v.ownBlock=some tb):=fun e=>by
  rcases e with e | e
  ·rw [e,heb] at hto;omega
  ·have:=hv tb e;omega
 refine ⟨?_,⟨⟨hChg.mono fun b _ h=>?_,hsame⟩,fun j y hj q hq=>?_⟩⟩
 ·obtain ⟨h1,h2,LA,lc,EA,ec',xs,vs,h3,h4,h5,h6,h7,h8⟩:=h
  have hq:∀ b,b < w.heap.size→ow b=1→¬ (b=eb∨v.ownBlock=some b):=fun b _ h e=>by
   rcases e with e | e
   ·rw [e,heb] at h;omega
   ·have:=hv b e;omega
  have hmon:∀ b,b < (w'.setCell ⟨eb,i,none⟩ v2).heap.size→(ow b=1)→(if b=e9 then i+3 else ow b)=1:=fun b _ h=>by
   rw [hsame b (h1 b (by omega))];exact h
  have hlist:=hE.list
  rw [Blk.cell h3 (by simp) 2] at hlist
  have hEA:EA=some ⟨eb,0,none⟩∧ec'=ec:=by
   have:some (Value.slice EA f.size ec')=some (Value.slice (some ⟨eb,0,none⟩) f.size ec):=hlist
   injection this with this
   injection this with a b c
   exact ⟨a,c⟩
  obtain ⟨rfl,rfl⟩:=hEA
  have htb:tb < w.heap.size:=Blk.inHeap h3 (by simp)
  have hcell:=hE.cell
  have hvi:vs[i]?=some v:=by
   obtain ⟨v',g1,_⟩:=h8 i x k hn
   have:=(own_cellX h6 g1).1
   rw [hcell] at this
   injection this with this
   rw [this];exact g1
  have hil:i < f.size:=nthF_lt hn
  have h6':w'.ownsRow 0 153 1 (.slice (some ⟨eb,0,none⟩) f.size ec') f.size vs:=own_chgX h6 hc fun b hb e=>by
   have:b=eb:=ownBlock_slice hb
   exact hce b e this
  refine ⟨fun b hb=>?_,by rw [hsame tb htb];exact h2,LA,lc,some ⟨eb,0,none⟩,ec',xs,vs.set i v2,(chg_blk hChg htb (hq tb htb h2)).trans h3,(h4.chg hChg hq).mono hmon,(h5.chg hChg hq).mono hmon,own_setX h6' i v2,fun b hb=>?_,fun j y l hj=>?_⟩
  ·have:(w'.setCell ⟨eb,i,none⟩ v2).heap.size=w'.heap.size:=by simp
   rw [this]
   split at hb
   ·rename_i e;rw [e];exact hlt9
   ·exact Nat.lt_of_lt_of_le (h1 b hb) hc.size
  ·have e:=ownBlock_slice hb
   rw [e,hsame eb hebw]
   exact heb
  ·by_cases hij:j=i
   ·subst hij
    rw [hn] at hj
    injection hj with hj
    injection hj with e1 e2
    subst e1
    subst e2
    refine ⟨v2,by rw [List.getElem?_set_self (by have:=h6.1;omega)],m2,ys2,own_chgX hown hC2 fun b hb e=>?_,fun b hb=>?_,fun q u hu=>?_⟩
    ·rw [hv2] at hb
     injection hb with hb
     have e3:b=eb:=e
     rw [e3] at hb
     subst hb
     have:=he9 hebw
     omega
    ·rw [hv2] at hb
     injection hb with hb
     exact if_pos hb.symm
    ·exact (hys q u hu).chg hChg (fun b e=>by
      rcases e with e | e
      ·rw [e,heb];omega
      ·have:=hv b e;omega) fun b hb e=>by rw [hsame b hb];exact e
   ·obtain ⟨v',g1,g2⟩:=h8 j y l hj
    refine ⟨v',by rw [List.getElem?_set_ne (fun e=>hij e.symm)];exact g1,g2.chg hChg (fun b e=>?_) fun b hb _=>hsame b hb⟩
    rcases e with e | e
    ·rw [e,heb];omega
    ·have:=hv b e;omega
 ·rcases h with h | h
  ·rw [h,heb];exact Nat.le_refl _
  ·rw [hv b h];omega
 ·obtain ⟨eb',n',ec2,A,c,m',q1,q2,q3⟩:=hq
  have e1:=hE.list
  rw [q1] at e1
  injection e1 with e1
  injection e1 with e1 e2 e3
  injection e1 with e1
  injection e1 with e1
  subst e1
  have t1:=cellC q1 hChg htb'
  have hown2:=own_rdX hown
  obtain ⟨A2,c2,e5,_⟩:=hown2
  by_cases hji:j=i
  ·subst hji
   rw [hE.cell] at q2
   injection q2 with q2
   obtain ⟨A3,c3,e6,_⟩:=own_rdX hE.row
   rw [e6] at q2
   injection q2 with _ q2 _
   exact ⟨eb',n',ec2,A2,c2,m2,t1,by rw [e5];exact World.cell?_setCell_same _ _ _ (cellC hE.cell hc heb'),by omega⟩
  ·exact ⟨eb',n',ec2,A,c,m',t1,by rw [World.cell?_setCell_other _ _ _ _ fun e=>by injection e with _ e;exact hji e.symm];exact cellC q2 hc heb',q3⟩
theorem DtAt.putMemo (h:DtAt s f tb ow w) {i:Nat} {x:NdV} {k:Fr} (hn:nthF f i=some (x,k)) {eb ec g cap p0 out:Nat} {m:Nat} {ys:List Value} (hE:DtEnds f tb ow w i eb ec (.slice (some ⟨g,0,none⟩) m cap) m ys)
  (hp:p0 < m) (ho:ow out=0) (hb:blk w out=BA (s.length+1) (turnsS s.length x (endsF s k) (p0 % (s.length+1)) (p0 / (s.length+1)))) (hv:ow g=i+3) :
  DtAt s f tb (fun b=>if b=out then 1 else ow b) (w.setCell ⟨g,p0,none⟩ (.slice (some ⟨out,0,none⟩) (s.length+1) (s.length+1)))∧LenUp f tb w (w.setCell ⟨g,p0,none⟩ (.slice (some ⟨out,0,none⟩) (s.length+1) (s.length+1))):=by
 have hC:Chg (fun b=>b=g) w (w.setCell ⟨g,p0,none⟩ (.slice (some ⟨out,0,none⟩) (s.length+1) (s.length+1))):=chg_cell _ _ _ _
 have hsame:∀ b,ow b≠0→(if b=out then 1 else ow b)=ow b:=fun b hb=>by
  rw [if_neg]
  intro e
  rw [e] at hb
  exact hb ho
 have hout:out < w.heap.size:=Blk.inHeap hb (ba_pos _ _)
 obtain ⟨h1,h2,LA,lc,EA,ec',xs,vs,h3,h4,h5,h6,h7,h8⟩:=h
 have hq:∀ b,b < w.heap.size→ow b=1→¬ (b=g):=fun b _ h e=>by rw [e] at h;omega
 have hmon:∀ b,b < (w.setCell ⟨g,p0,none⟩ (.slice (some ⟨out,0,none⟩) (s.length+1) (s.length+1))).heap.size→(ow b=1)→(if b=out then 1 else ow b)=1:=fun b _ h=>by
  rw [hsame b (by omega)];exact h
 have htb:tb < w.heap.size:=Blk.inHeap h3 (by simp)
 have hlist:=hE.list
 rw [Blk.cell h3 (by simp) 2] at hlist
 have hEA:EA=some ⟨eb,0,none⟩∧ec'=ec:=by
  have:some (Value.slice EA f.size ec')=some (Value.slice (some ⟨eb,0,none⟩) f.size ec):=hlist
  injection this with this
  injection this with a b c
  exact ⟨a,c⟩
 obtain ⟨rfl,rfl⟩:=hEA
 have heb:=hE.low
 have hvi:vs[i]?=some (.slice (some ⟨g,0,none⟩) m cap):=by
  obtain ⟨v',g1,_⟩:=h8 i x k hn
  have:=(own_cellX h6 g1).1
  rw [hE.cell] at this
  injection this with this
  rw [this];exact g1
 refine ⟨⟨fun b hb=>?_,by rw [hsame tb (by omega)];exact h2,LA,lc,some ⟨eb,0,none⟩,ec',xs,vs,(chg_blk hC htb (hq tb htb h2)).trans h3,(h4.chg hC hq).mono hmon,(h5.chg hC hq).mono hmon,own_chgX h6 hC fun b hb e=>?_,fun b hb=>?_,fun j y l hj=>?_⟩,fun j y _ q hq2=>?_⟩
 rotate_left 4
 ·obtain ⟨eb',n',ec2,A,c,m',q1,q2,q3⟩:=hq2
  have e1:=hE.list
  rw [q1] at e1
  injection e1 with e1
  injection e1 with e1 e2 e3
  injection e1 with e1
  injection e1 with e1
  subst e1
  exact ⟨eb',n',ec2,A,c,m',cellC q1 hC fun e=>by rw [e] at h2;omega,cellC q2 hC fun e=>by rw [e] at heb;omega,q3⟩
 ·rw [show (w.setCell ⟨g,p0,none⟩ (.slice (some ⟨out,0,none⟩) (s.length+1) (s.length+1))).heap.size=w.heap.size by simp]
  split at hb
  ·rename_i e;rw [e];exact hout
  ·exact h1 b hb
 ·have e1:=ownBlock_slice hb
  have e2:b=g:=e
  rw [e1] at e2
  rw [e2] at heb
  omega
 ·have e1:=ownBlock_slice hb
  rw [e1,hsame eb (by omega)]
  exact heb
 ·by_cases hij:j=i
  ·subst hij
   rw [hn] at hj
   injection hj with hj
   injection hj with e1 e2
   subst e1
   subst e2
   obtain ⟨v',g1,m',ys',k1,k2,k3⟩:=h8 j x k hn
   rw [hvi] at g1
   injection g1 with g1
   subst g1
   have hr:=hE.row
   refine ⟨_,hvi,m,ys.set p0 (.slice (some ⟨out,0,none⟩) (s.length+1) (s.length+1)),own_setX hr p0 _,fun b hb=>?_,fun q u hu=>?_⟩
   ·have e1:=ownBlock_slice hb
    rw [e1]
    exact (hsame g (by omega)).trans hv
   ·by_cases hqp:p0=q
    ·subst hqp
     rw [List.getElem?_set_self (by have:=hr.1;omega)] at hu
     injection hu with hu
     exact .inr ⟨out,hu.symm,if_pos rfl,(chg_blk hC hout fun e=>by rw [e] at ho;omega).trans hb⟩
    ·rw [List.getElem?_set_ne hqp] at hu
     have hys:ys'=ys:=by
      have a1:=k1.2
      have a2:=hr.2
      have l1:=k1.1
      have l2:=hr.1
      rcases a1 with ⟨a1,_⟩ | ⟨b1,c1,d1,e1,f1,q1,i1,j1,r1,t1⟩
      ·cases a1
      ·rcases a2 with ⟨a2,_⟩ | ⟨b2,c2,d2,e2,f2,q2,i2,j2,r2,t2⟩
       ·cases a2
       ·injection e1 with e1 e1' e1''
        injection e1 with e1
        injection e1 with e1
        injection e2 with e2 e2' e2''
        injection e2 with e2
        injection e2 with e2
        subst e1
        subst e2
        rw [q1] at q2
        injection q2 with q2
        injection q2 with q2
        subst q2
        rw [← t1,← t2,← e1']
     rw [← hys] at hu
     exact (k3 q u hu).chg hC (fun b e=>by rw [e];omega) fun b hb e=>by rw [hsame b (by omega)];exact e
  ·obtain ⟨v',g1,g2⟩:=h8 j y l hj
   refine ⟨v',g1,g2.chg hC (fun b e=>?_) fun b hb e=>hsame b (by omega)⟩
   rw [e]
   omega
end
end Go.Proofs.YtnjagecmhdagkaaGreatDoor
