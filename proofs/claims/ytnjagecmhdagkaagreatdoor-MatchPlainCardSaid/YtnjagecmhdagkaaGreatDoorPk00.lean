/-
 Several texts of the proof: Kit, Tx, Bt, Blk, Cls.
-/
import Derived.Test.YtnjagecmhdagkaaGreatDoorRows
import Derived.WalkKit
import Derived.WalkSpells
import Derived.WalkLawsBesides
import Derived.Deep.QuietTactic
import Derived.BigQuiet
import Derived.Deep.MidRow
import Derived.Lib.Hide
import Derived.Deep.RegionHeld3
import Derived.Deep.DeepCutAuto
import Derived.Lib.IndexLaws
import Derived.Laws.AppendOwnNone
import Derived.Deep.LoopGhost
import Derived.Maps.AppendAt
import Derived.RangeFuncBox
set_option linter.unusedSimpArgs false
set_option linter.unusedVariables false
set_option maxRecDepth 3000
/-
  Small laws for the walks of this seat: a world with more blocks behind it ('more'), a block's cells as a function ('blk'), whole arrays loaded and stored without unrolling.
-/
namespace Go.Proofs.YtnjagecmhdagkaaGreatDoor
open Go.RowKit
def I64 (n:Int):Prop:=-9223372036854775808≤n∧n≤9223372036854775807
theorem i64 {n:Int} (h:-9223372036854775808≤n) (k:n≤9223372036854775807):I64 n:=⟨h,k⟩
structure More where
 bs:Array Obj
 n:Nat
instance : Nonempty More := ⟨⟨#[], 0⟩⟩
def more (w:World) (m:More):World:={ w with heap:=w.heap++m.1,drawn:=m.2 }
def Grows (w w':World):Prop:=∃ m,w'=more w m
def InHeap (g:Nat) (w:World):Prop:=g < w.heap.size
section
variable (w:World) (m:More) (g n:Nat) (o:Obj) (a:Addr) (v:Value)
@[go_sem] theorem inHeap_alloc:InHeap g (w.alloc o) ↔ (InHeap g w∨g=w.heap.size):=by unfold InHeap;simp;omega
@[go_sem] theorem inHeap_more:InHeap g (more w m) ↔ (InHeap g w∨(w.heap.size≤g∧g < w.heap.size+m.1.size)):=by unfold InHeap more;simp;omega
@[go_sem] theorem inHeap_drew:InHeap g w.drew ↔ InHeap g w:=Iff.rfl
@[go_sem] theorem inHeap_drewN:InHeap g (w.drewN n) ↔ InHeap g w:=Iff.rfl
@[go_sem] theorem inHeap_setCell:InHeap g (w.setCell a v) ↔ InHeap g w:=by unfold InHeap;simp
end
section
variable (w:World) (m k:More) (a:Addr)
@[simp,go_sem] theorem size_more:(more w m).heap.size=w.heap.size+m.1.size:=by simp [more]
@[simp,go_sem] theorem tape_more:(more w m).tape=w.tape:=rfl
theorem heap_more (i:Nat) (h:i < w.heap.size):(more w m).heap[i]?=w.heap[i]?:=by
 show (w.heap++m.1)[i]?=_
 rw [Array.getElem?_append_left h]
@[go_sem] theorem cell_more (h:InHeap a.block w):(more w m).cell? a=w.cell? a:=World.cell?_of_block (heap_more w m _ h)
@[go_sem] theorem frozen_more (h:InHeap a.block w):(more w m).frozen? a=w.frozen? a:=World.frozen?_of_block (heap_more w m _ h)
theorem more_more:more (more w m) k=more w ⟨m.1++k.1,k.2⟩:=by
 simp [more,Array.append_assoc]
@[simp,go_sem] theorem drew_more:(more w m).drew=more w ⟨m.1,m.2+1⟩:=rfl
@[simp,go_sem] theorem drewN_more (n:Nat):(more w m).drewN n=more w ⟨m.1,m.2+n⟩:=rfl
@[simp,go_sem] theorem more_drew:more w.drew m=more w m:=rfl
@[simp,go_sem] theorem more_drewN (n:Nat):more (w.drewN n) m=more w m:=rfl
theorem more_self:w=more w ⟨#[],w.drawn⟩:=by simp [more]
theorem setCell_more (i:Nat) (n:Nat) (v:Value) (h:InHeap n w):(more w m).setCell ⟨n,i,none⟩ v=more (w.setCell ⟨n,i,none⟩ v) m:=by
 unfold InHeap at h
 unfold World.setCell more
 congr 1
 apply Array.ext_getElem?
 intro j
 simp only [Array.getElem?_modify,Array.getElem?_append,Array.size_modify]
 by_cases hj:n=j
 ·subst hj
  simp [h]
 ·simp [hj]
end
attribute [go_sem] setCell_more
theorem Grows.refl (w:World):Grows w w:=⟨_,more_self w⟩
theorem Grows.trans {a b c:World} (h:Grows a b) (k:Grows b c):Grows a c:=by
 obtain ⟨m,rfl⟩:=h
 obtain ⟨n,rfl⟩:=k
 exact ⟨_,more_more _ _ _⟩
theorem Grows.of (w:World) (m:More):Grows w (more w m):=⟨m,rfl⟩
theorem Grows.below {w w':World} (h:Grows w w'):Below w.heap.size w w':=by
 obtain ⟨m,rfl⟩:=h
 exact ⟨rfl,rfl,rfl,by simp,fun k hk=>heap_more w m k hk⟩
theorem Grows.of_below {w w':World} (h:Below w.heap.size w w'):Grows w w':=by
 refine ⟨⟨w'.heap.extract w.heap.size w'.heap.size,w'.drawn⟩,?_⟩
 have he:w'.heap=w.heap++w'.heap.extract w.heap.size w'.heap.size:=by
  apply Array.ext_getElem?
  intro i
  have hs:=h.size
  rcases Nat.lt_or_ge i w.heap.size with hi | hi
  ·rw [h.block i hi,Array.getElem?_append_left hi]
  ·rw [Array.getElem?_append_right hi]
   rcases Nat.lt_or_ge i w'.heap.size with hj | hj
   ·rw [Array.getElem?_extract]
    rw [if_pos (by omega)]
    congr 1
    omega
   ·rw [Array.getElem?_eq_none hj,Array.getElem?_eq_none (by simp;omega)]
 cases w' with
 | mk hp tp dr os ou =>
  have h1:os=w.os:=h.os
  have h2:tp=w.tape:=h.tape
  have h3:ou=w.output:=h.output
  subst h1 h2 h3
  simp only [more]
  congr 1
theorem Grows.alloc {a w:World} (h:Grows a w) (o:Obj):Grows a (w.alloc o):=by
 obtain ⟨m,rfl⟩:=h
 exact ⟨⟨m.1.push o,m.2⟩,by simp [more,World.alloc]⟩
theorem Grows.drew {a w:World} (h:Grows a w):Grows a w.drew:=by
 obtain ⟨m,rfl⟩:=h
 exact ⟨_,drew_more _ _⟩
theorem Grows.drewN {a w:World} (h:Grows a w) (n:Nat):Grows a (w.drewN n):=by
 obtain ⟨m,rfl⟩:=h
 exact ⟨_,drewN_more _ _ _⟩
theorem Grows.more {a w:World} (h:Grows a w) (m:More):Grows a (more w m):=h.trans ⟨m,rfl⟩
theorem Grows.setCell {a w:World} (h:Grows a w) {p:Addr} (hp:a.heap.size≤p.block) (v:Value):Grows a (w.setCell p v):=Grows.of_below (h.below.setCell hp v)
section
variable (w:World) (o:Obj) (n i:Nat) (v:Value)
@[go_sem] theorem cell_alloc_in (h:InHeap n w):(w.alloc o).cell? ⟨n,i,none⟩=w.cell? ⟨n,i,none⟩:=World.cell?_alloc_past o n i h
@[go_sem] theorem frozen_alloc_in (h:InHeap n w):(w.alloc o).frozen? ⟨n,i,none⟩=w.frozen? ⟨n,i,none⟩:=World.frozen?_alloc_past o n i h
@[go_sem] theorem setCell_alloc_in (h:InHeap n w):(w.alloc o).setCell ⟨n,i,none⟩ v=(w.setCell ⟨n,i,none⟩ v).alloc o:=World.setCell_alloc_past o n i v h
end
def blk (w:World) (g:Nat):Array Value :=
 match w.heap[g]? with
 | some (.cells c _ (0,0))=>c
 | _=>#[]
def setBlk (w:World) (g:Nat) (c:Array Value):World:=w.setRow g c
section
variable (w:World) (m:More) (c c':Array Value) (t:TypeId) (o:Obj) (g i n:Nat)
@[go_sem] theorem blk_alloc_at (h:g=w.heap.size):blk (w.alloc (.cells c t)) g=c:=by
 subst h;unfold blk;rw [heap_alloc_new];rfl
@[go_sem] theorem blk_alloc_past (h:InHeap g w):blk (w.alloc o) g=blk w g:=by
 unfold blk;rw [Below.heap_alloc _ _ _ h]
@[go_sem] theorem blk_more (h:InHeap g w):blk (more w m) g=blk w g:=by
 unfold blk;rw [heap_more _ _ _ h]
@[go_sem] theorem blk_drew:blk w.drew g=blk w g:=rfl
@[go_sem] theorem blk_drewN:blk (w.drewN n) g=blk w g:=rfl
@[go_sem] theorem setBlk_alloc_at (h:g=w.heap.size):setBlk (w.alloc (.cells c t)) g c'=w.alloc (.cells c' t):=by
 subst h
 simp only [setBlk,World.setRow,World.alloc]
 congr 1
 apply Array.ext_getElem?
 intro i
 rw [Array.getElem?_modify]
 by_cases h:w.heap.size=i
 ·subst h
  simp
 ·have h':¬ i=w.heap.size:=fun e=>h e.symm
  simp [h,h',Array.getElem?_push]
@[go_sem] theorem setBlk_alloc_past (h:InHeap g w):setBlk (w.alloc o) g c'=(setBlk w g c').alloc o:=by
 unfold InHeap at h
 unfold setBlk World.setRow World.alloc
 congr 1
 apply Array.ext_getElem?
 intro k
 simp only [Array.getElem?_modify,Array.getElem?_push,Array.size_modify]
 by_cases hk:k=w.heap.size
 ·subst hk
  simp [Nat.ne_of_lt h]
 ·simp [hk]
@[go_sem] theorem setBlk_more (h:InHeap g w):setBlk (more w m) g c'=more (setBlk w g c') m:=by
 unfold InHeap at h
 unfold setBlk World.setRow more
 congr 1
 apply Array.ext_getElem?
 intro j
 simp only [Array.getElem?_modify,Array.getElem?_append,Array.size_modify]
 by_cases hj:g=j
 ·subst hj
  simp [h]
 ·simp [hj]
@[go_sem] theorem setBlk_drew:setBlk w.drew g c'=(setBlk w g c').drew:=rfl
@[go_sem] theorem setBlk_drewN:setBlk (w.drewN n) g c'=(setBlk w g c').drewN n:=rfl
theorem blk_some (h:0 < (blk w g).size):∃ t,w.heap[g]?=some (.cells (blk w g) t (0,0)):=by
 unfold blk at *
 split at h
 ·rename_i c t he
  exact ⟨t,he⟩
 ·simp at h
end
section
variable {P:Program} (w:World)
theorem run_loadAt_blk (ty:TypeId) (g n:Nat) (d:TypeDesc) (hu:P.underlying ty=some d) (hd:d.isRow=true) (hi:(P.info? ty).map (·.size)=some n) (hn:0 < n) (hs:(blk w g).size=n) :
  (Instr.loadAt ty (.pointer (some ⟨g,0,none⟩))).run P w=.ok (.agg (blk w g)) w:=by
 obtain ⟨t,ht⟩:=blk_some w g (by omega)
 simp only [Instr.loadAt,Instr.sureAddr,Sem.run_bind,Sem.run_pure,Result.andThen_ok]
 exact run_loadVar_row w g t ty (blk w g) (0,0) d ht hu (by cases d <;> simp_all [TypeDesc.isRow]) (by rw [hi,hs])
end
theorem run_loadCells_blk {P:Program} (w:World) (g n:Nat) (hn:0 < n) (hs:(blk w g).size=n):(loadCellsFrom ⟨g,0,none⟩ 0 n #[]).run P w=.ok (blk w g) w:=by
 obtain ⟨t,ht⟩:=blk_some w g (by omega)
 subst hs
 have:=run_loadCells_list (P:=P) w ⟨g,0,none⟩ (blk w g).toList (fun j v hv=>by
  have hadd:(⟨g,0,none⟩:Addr).add j=⟨g,j,none⟩:=by unfold Addr.add;split <;> simp_all
  rw [hadd,cell_of_row _ _ j _ t (0,0) ht]
  simpa using hv)
 simpa [loadCells] using this
def OneCells (c:Array Value):Prop:=c.all (·.oneCell')=true
theorem run_storeCells_blk {P:Program} (w:World) (g:Nat) (c:Array Value) (hn:0 < c.size) (hs:(blk w g).size=c.size) (h1:OneCells c) :
  (storeCells ⟨g,0,none⟩ c.toList 0).run P w=.ok () (setBlk w g c):=by
 obtain ⟨t,ht⟩:=blk_some w g (by omega)
 have:=run_storeCells_from (P:=P) g t c.toList 0 (blk w g) w ht (by simp [hs]) (fun v hv=>(Array.all_eq_true_iff_forall_mem.1 h1) v (by simpa using hv))
 simpa [setBlk] using this
def loadAll (P:Program) (w:World) (g n:Nat):Result (Array Value):=(loadCellsFrom ⟨g,0,none⟩ 0 n #[]).run P w
theorem run_loadAll {P:Program} (w:World) (g n:Nat):(loadCellsFrom ⟨g,0,none⟩ 0 (n+6) #[]).run P w=loadAll P w g (n+6):=rfl
theorem loadAll_blk {P:Program} (w:World) (g n:Nat) (hn:0 < n) (hs:(blk w g).size=n):loadAll P w g n=.ok (blk w g) w:=run_loadCells_blk w g n hn hs
def loadOdd (P:Program) (w:World) (g n:Nat):Result (Array Value):=loadAll P w g n
theorem loadAll_if {P:Program} (w:World) (g n:Nat):loadAll P w g n=if 0 < n∧(blk w g).size=n then .ok (blk w g) w else loadOdd P w g n:=by
 split
 ·rename_i h;exact loadAll_blk w g n h.1 h.2
 ·rfl
def storeOdd (P:Program) (w:World) (g:Nat) (c:Array Value):Result Unit:=(storeCells ⟨g,0,none⟩ c.toList 0).run P w
theorem run_storeCells_if {P:Program} (w:World) (g:Nat) (c:Array Value) (h1:OneCells c) :
  (storeCells ⟨g,0,none⟩ c.toList 0).run P w=if 0 < c.size∧(blk w g).size=c.size then .ok () (setBlk w g c) else storeOdd P w g c:=by
 split
 ·rename_i h;exact run_storeCells_blk w g c h.1 h.2 h1
 ·rfl
attribute [go_sem ↓] run_loadAll
attribute [go_sem] loadAll_if run_storeCells_if
@[go_sem] theorem run_index_agg {P:Program} (w:World) (t:TypeId) (cs:Array Value) (k:IntKind) (i:Int) (h:P.underlying t=some (.array (P.arrayLen t) (P.elem t))) :
  (Instr.index t (.agg cs) (.int k i)).run P w=if 0≤i∧i < P.arrayLen t then ((sizeOf (P.elem t)).run P w).andThen fun s w=>(part (P.elem t) cs (i.toNat*s)).run P w else (boundsPanic k i (P.arrayLen t) .index).run P w:=by
 simp [Instr.index,run_underlying h,asIntOf]
theorem run_equalIn_array_same {P:Program} (w:World) (d:Nat) (t e:TypeId) (n:Nat) (xs:Array Value) (ht:P.underlying t=some (.array n e)) (hs:∀ w,(sizeOf e).run P w=.ok 1 w)
  (hp:∀ i,i < n→∃ v,∀ w,(part e xs i).run P w=.ok v w∧(Op.equalIn d e v v).run P w=.ok true w) :
  (Op.equalIn (d+1) t (.agg xs) (.agg xs)).run P w=.ok true w:=by
 simp only [Op.equalIn,Sem.run_bind,run_underlying ht,Result.andThen_ok,hs]
 rw [Std.Legacy.Range.forIn_eq_forIn_range']
 have hl:∀ i ∈ List.range' [:n].start [:n].size [:n].step,i < n:=by
  intro i hi
  simp [List.mem_range',Std.Legacy.Range.size] at hi
  omega
 generalize List.range' [:n].start [:n].size [:n].step=l at hl
 induction l generalizing w with
 | nil=>simp
 | cons i l ih =>
  obtain ⟨v,hv⟩:=hp i (hl i (by simp))
  simp only [List.forIn_cons,Sem.run_bind,Nat.mul_one,(hv _).1,(hv _).2,Result.andThen_ok,Bool.not_true,Bool.false_eq_true,if_false,Sem.run_pure]
  have:=ih w (fun j hj=>hl j (by simp [hj]))
  simpa using this
def Rd (w:World) (size:Nat) (A:Option Addr) (n:Nat) (xs:List Value):Prop :=
 xs.length=n*size∧(0 < n→∃ b o,A=some ⟨b,o,none⟩∧b < w.heap.size∧∀ j u,xs[j]?=some u→w.cell? ⟨b,o+j,none⟩=some u)
section
variable {w w':World} {size n:Nat} {A:Option Addr} {xs:List Value}
theorem Rd.grows (h:Rd w size A n xs) (hg:Grows w w'):Rd w' size A n xs :=
 ⟨h.1,fun hn=>by
  obtain ⟨b,o,e,hb,hc⟩:=h.2 hn
  obtain ⟨m,rfl⟩:=hg
  exact ⟨b,o,e,by simp;omega,fun j u hu=>by rw [cell_more w m ⟨b,o+j,none⟩ hb];exact hc j u hu⟩⟩
theorem Rd.nil_:Rd w size A 0 []:=⟨by simp,fun h=>absurd h (by omega)⟩
theorem Rd.at_ (h:Rd w size A n xs) {j:Nat} (hj:j < xs.length):∃ b o,A=some ⟨b,o,none⟩∧b < w.heap.size∧w.cell? ⟨b,o+j,none⟩=some xs[j]:=by
 have hn:0 < n:=by
  have:=h.1
  rcases Nat.eq_zero_or_pos n with e | e
  ·subst e;simp at this;simp [this] at hj
  ·exact e
 obtain ⟨b,o,e,hb,hc⟩:=h.2 hn
 exact ⟨b,o,e,hb,hc j _ (List.getElem?_eq_getElem hj)⟩
end
theorem region_grows {P:Program} {id:Nat} {Q:Exit→Act→World→Prop} {a:Act} {w:World} {l:List Oper} (hm:P.follows .mixedOrders=true) (hB:Region.lexB .any l.toArray=true)
  (h:wpQuiet P l.toArray (fun w'=>∃ m,w'=more w m) (fun a'=>∀ w',(∃ m,w'=more w m)→Q .normal a' w') l a):(Code.region id l.toArray true).wp P Q a w :=
 wp_region_quiet (C:=fun w'=>∃ m,w'=more w m) hm hB ⟨⟨#[],w.drawn+1⟩,by simp [more]⟩ (by simpa using h)
theorem calls_grows {P:Program} {f:FuncId} {args:Array Value} {w:World} {m:More} {v:Value}
  (h:Calls P f args (more w m) fun e w'=>e=.returned v∧Grows (more w m) w'):Calls P f args (more w m) fun e w''=>e=.returned v∧∃ k,w''=more w k :=
 h.mono fun _ _ ⟨he,hk⟩=>⟨he,(Grows.of w m).trans hk⟩
end Go.Proofs.YtnjagecmhdagkaaGreatDoor
namespace Go.Proofs.YtnjagecmhdagkaaGreatDoor
open Go.RowKit
def Strs (w:World) (v:Value) (ss:List ByteArray):Prop :=
 ∃ (A:Option Addr) (cap:Nat),v=.slice A ss.length cap∧ss.length≤cap∧cap≤9223372036854775807∧Rd w 1 A ss.length (ss.map Value.string)
theorem Strs.grows {w w':World} {v:Value} {ss:List ByteArray} (h:Strs w v ss) (hg:Grows w w'):Strs w' v ss:=by
 obtain ⟨A,cap,e,h1,h2,h3⟩:=h
 exact ⟨A,cap,e,h1,h2,h3.grows hg⟩
theorem Strs.nil_ (w:World) (A:Option Addr):Strs w (.slice A 0 0) []:=⟨A,0,rfl,Nat.le_refl _,by omega,Rd.nil_⟩
theorem str_eq {a b:ByteArray} (h:a=b):(a.toList == b.toList)=true:=by rw [h];simp
theorem str_ne {a b:ByteArray} (h:a≠b):(a.toList == b.toList)=false:=by
 rw [beq_eq_false_iff_ne,ByteArray.toList_eq,ByteArray.toList_eq]
 exact fun e=>h (WideShapes.bytes_inj e)
def tx (l:List UInt8):ByteArray:=⟨l.toArray⟩
@[simp] theorem tx_data (l:List UInt8):(tx l).data.toList=l:=by simp [tx]
@[simp] theorem tx_size (l:List UInt8):(tx l).size=l.length:=by simp [tx,ByteArray.size]
theorem tx_inj {a b:List UInt8} (h:tx a=tx b):a=b:=by
 have:=congrArg (fun s:ByteArray=>s.data.toList) h;simpa using this
theorem tx_mid (s:List UInt8) (f k:Nat):(tx s).extract f k=tx ((s.drop f).take (k - f)):=by
 apply WideShapes.bytes_inj
 simp [ByteArray.data_extract,Array.toList_extract,tx]
theorem tx_get (s:List UInt8) (k:Nat) (h:k < (tx s).size):(tx s)[k]=s[k]'(by simpa using h):=by
 simp [tx];rfl
def lv (d:List (List UInt8)):List Value:=(d.map tx).map Value.string
theorem rd_new (w:World) (cs:Array Value) (t:TypeId) (n g:Nat) (hn:cs.size=n) (hg:g=w.heap.size):Rd (w.alloc (.cells cs t)) 1 (some ⟨g,0,none⟩) n cs.toList:=by
 subst hg hn
 refine ⟨by simp,fun _=>⟨_,0,rfl,by simp,fun j u hu=>?_⟩⟩
 rw [cell_of_row _ _ _ cs t (0,0) (World.alloc_heap_new _ _),Nat.zero_add]
 simpa using hu
end Go.Proofs.YtnjagecmhdagkaaGreatDoor
namespace Go.Proofs.YtnjagecmhdagkaaGreatDoor
open Go.RowKit
def bt (s:List UInt8) (k:Nat):Nat:=(s.getD k 0).toNat
theorem bt_lt (s:List UInt8) (k:Nat):bt s k < 256:=by unfold bt;exact UInt8.toNat_lt _
theorem tx_bt (s:List UInt8) (k:Nat) (h:k < (tx s).size):((tx s)[k]'h).toNat=bt s k:=by
 rw [tx_get]
 have h2:k < s.length:=by simpa using h
 simp [bt,h2]
theorem bt_drop (s:List UInt8) (n k:Nat):bt (s.drop n) k=bt s (n+k):=by
 unfold bt;simp [List.getD_eq_getElem?_getD,List.getElem?_drop]
theorem bt_append_left (a b:List UInt8) (k:Nat) (h:k < a.length):bt (a++b) k=bt a k:=by
 unfold bt;simp [List.getD_eq_getElem?_getD,List.getElem?_append_left h]
theorem bt_append_right (a b:List UInt8) (k:Nat) (h:a.length≤k):bt (a++b) k=bt b (k - a.length):=by
 unfold bt;simp [List.getD_eq_getElem?_getD,List.getElem?_append_right h]
theorem bt_get (s:List UInt8) (k:Nat) (h:k < s.length):bt s k=s[k].toNat:=by simp [bt,h]
@[simp] theorem bt_cons_zero (a:UInt8) (s:List UInt8):bt (a::s) 0=a.toNat:=by simp [bt]
@[simp] theorem bt_cons_succ (a:UInt8) (s:List UInt8) (k:Nat):bt (a::s) (k+1)=bt s k:=by simp [bt]
theorem tx_from (s:List UInt8) (k:Nat):(tx s).extract k s.length=tx (s.drop k):=by
 rw [tx_mid]
 congr 1
 exact List.take_of_length_le (by simp)
theorem tx_nil:tx []=⟨#[]⟩:=rfl
theorem bt_byte (s:List UInt8) (k:Nat):((bt s k:Nat):Int).toNat.toUInt8=s.getD k 0:=by simp [bt]
end Go.Proofs.YtnjagecmhdagkaaGreatDoor
namespace Go.Proofs.YtnjagecmhdagkaaGreatDoor
open Go.RowKit
section
variable {w:World} {g:Nat} {c:Array Value}
theorem Blk.inHeap (h:blk w g=c) (hc:0 < c.size):InHeap g w:=by
 obtain ⟨t,ht⟩:=blk_some w g (by rw [h];exact hc)
 exact (Array.getElem?_eq_some_iff.1 ht).1
theorem Blk.cell (h:blk w g=c) (hc:0 < c.size) (i:Nat):w.cell? ⟨g,i,none⟩=c[i]?:=by
 obtain ⟨t,ht⟩:=blk_some w g (by rw [h];exact hc)
 rw [cell_of_row w g i _ t _ ht,h]
theorem Blk.free (h:blk w g=c) (hc:0 < c.size) (i:Nat):w.frozen? ⟨g,i,none⟩=false:=by
 obtain ⟨t,ht⟩:=blk_some w g (by rw [h];exact hc)
 exact frozen_of_row w g i _ t ht
theorem Blk.set (h:blk w g=c) (hc:0 < c.size) (i:Nat) (v:Value):w.setCell ⟨g,i,none⟩ v=setBlk w g (c.setIfInBounds i v):=by
 obtain ⟨t,ht⟩:=blk_some w g (by rw [h];exact hc)
 rw [setCell_eq_setRow w g i _ t _ v ht,h]
 rfl
theorem Blk.get (c':Array Value) (h:blk w g=c) (hc:0 < c.size):blk (setBlk w g c') g=c':=by
 obtain ⟨t,ht⟩:=blk_some w g (by rw [h];exact hc)
 unfold blk setBlk
 rw [setRow_heap w g _ c' t _ ht]
 rfl
theorem Blk.set_set (a b:Array Value):setBlk (setBlk w g a) g b=setBlk w g b:=setRow_setRow w g a b
theorem Blk.same (h:blk w g=c) (hc:0 < c.size):setBlk w g c=w:=by
 obtain ⟨t,ht⟩:=blk_some w g (by rw [h];exact hc)
 rw [h] at ht
 have hlt:g < w.heap.size:=(Array.getElem?_eq_some_iff.1 ht).1
 unfold setBlk World.setRow
 cases w with
 | mk hp tp dr os ou =>
  congr 1
  apply Array.ext_getElem?
  intro i
  rw [Array.getElem?_modify]
  split
  ·rename_i e
   subst e
   simp only at ht
   rw [ht]
   rfl
  ·rfl
theorem inHeap_setBlk (k:Nat):InHeap k (setBlk w g c) ↔ InHeap k w:=by unfold InHeap setBlk;simp
@[go_sem] theorem inHeap_setBlk' (w:World) (g k:Nat) (c:Array Value):InHeap k (setBlk w g c) ↔ InHeap k w:=inHeap_setBlk k
theorem blk_setBlk_other (w:World) (g k:Nat) (c:Array Value) (h:k≠g):blk (setBlk w g c) k=blk w k:=by
 unfold blk setBlk;rw [setRow_other w g k c h]
theorem cell_setBlk_other (w:World) (g:Nat) (c:Array Value) (a:Addr) (h:a.block≠g):(setBlk w g c).cell? a=w.cell? a:=cell_setRow_other w g c a h
end
@[simp,go_sem] theorem size_setBlk (w:World) (g:Nat) (c:Array Value):(setBlk w g c).heap.size=w.heap.size:=by simp [setBlk]
def Turned (w:World) (g:Nat) (c:Array Value) (w':World):Prop:=∃ m,w'=more (setBlk w g c) m
theorem Turned.mk (w:World) (g:Nat) (c:Array Value) (m:More):Turned w g c (more (setBlk w g c) m):=⟨m,rfl⟩
section
variable {w w' w'':World} {g:Nat} {c c':Array Value}
theorem Turned.refl (h:blk w g=c) (hc:0 < c.size):Turned w g c w:=⟨_,by rw [Blk.same h hc];exact more_self w⟩
theorem Turned.drewN (h:Turned w g c w') (n:Nat):Turned w g c (w'.drewN n):=by
 obtain ⟨m,rfl⟩:=h;exact ⟨_,drewN_more _ _ _⟩
theorem Turned.alloc (h:Turned w g c w') (o:Obj):Turned w g c (w'.alloc o):=by
 obtain ⟨m,rfl⟩:=h
 exact ⟨⟨m.1.push o,m.2⟩,by simp [Go.Proofs.YtnjagecmhdagkaaGreatDoor.more,World.alloc]⟩
theorem Turned.more (h:Turned w g c w') (m:More):Turned w g c (more w' m):=by
 obtain ⟨k,rfl⟩:=h;exact ⟨_,more_more _ _ _⟩
theorem Turned.grows (h:Turned w g c w') (k:Grows w' w''):Turned w g c w'':=by
 obtain ⟨m,rfl⟩:=k;exact h.more m
theorem Turned.inHeap (h:Turned w g c w') (k:Nat) (hk:InHeap k w):InHeap k w':=by
 obtain ⟨m,rfl⟩:=h
 rw [inHeap_more]
 exact .inl ((inHeap_setBlk k).2 hk)
theorem Turned.blk (h:Turned w g c w') {o:Array Value} (hb:blk w g=o) (ho:0 < o.size):blk w' g=c:=by
 obtain ⟨m,rfl⟩:=h
 rw [blk_more _ _ _ ((inHeap_setBlk g).2 (Blk.inHeap hb ho)),Blk.get c hb ho]
theorem Turned.trans (h:Turned w g c w') (k:Turned w' g c' w'') {o:Array Value} (hb:Go.Proofs.YtnjagecmhdagkaaGreatDoor.blk w g=o) (ho:0 < o.size):Turned w g c' w'':=by
 obtain ⟨m,rfl⟩:=h
 obtain ⟨n,rfl⟩:=k
 rw [setBlk_more _ _ _ _ ((inHeap_setBlk g).2 (Blk.inHeap hb ho)),Blk.set_set]
 exact ⟨_,more_more _ _ _⟩
theorem Turned.setCell (h:Turned w g c w') {o:Array Value} (hb:Go.Proofs.YtnjagecmhdagkaaGreatDoor.blk w g=o) (ho:0 < o.size) (hc:0 < c.size) (i:Nat) (v:Value):Turned w g (c.setIfInBounds i v) (w'.setCell ⟨g,i,none⟩ v):=by
 have hb':=h.blk hb ho
 rw [Blk.set hb' hc]
 obtain ⟨m,rfl⟩:=h
 rw [setBlk_more _ _ _ _ ((inHeap_setBlk g).2 (Blk.inHeap hb ho)),Blk.set_set]
 exact ⟨_,rfl⟩
end
def Turned2 (w:World) (g:Nat) (c:Array Value) (h:Nat) (d:Array Value) (w':World):Prop:=∃ m,w'=more (setBlk (setBlk w g c) h d) m
section
variable {w w' w'':World} {g h:Nat} {c d c' d' o p:Array Value}
theorem Turned2.refl (hb:blk w g=c) (hc:0 < c.size) (hd:blk w h=d) (hz:0 < d.size):Turned2 w g c h d w:=⟨_,by rw [Blk.same hb hc,Blk.same hd hz];exact more_self w⟩
theorem Turned2.drewN (T:Turned2 w g c h d w') (n:Nat):Turned2 w g c h d (w'.drewN n):=by
 obtain ⟨m,rfl⟩:=T;exact ⟨_,drewN_more _ _ _⟩
end
end Go.Proofs.YtnjagecmhdagkaaGreatDoor
namespace Go.Proofs.YtnjagecmhdagkaaGreatDoor
open Go.RowKit
def Enters (f:FuncId):Prop:=∀ (args:Array Value) (w:World),(callFunc f args).run Tryz.prog w=.ok (.enter f args) w
theorem enters_of {f:FuncId} {fn:Func} (hf:Tryz.prog.funcs[f]?=some fn) (hn:(fn.name == "runtime.NumGoroutine")=false) (hb:fn.body.isNone=false):Enters f:=by
 intro args w
 have h1:fn.name≠ "runtime.NumGoroutine":=by simpa using hn
 have h2:fn.body≠none:=by intro h;rw [h] at hb;cases hb
 simp [callFunc,hf,h1,h2]
def Ext (lo:Nat) (w w':World):Prop:=∀ b c t f,lo≤b→w.heap[b]?=some (.cells c t f)→w'.heap[b]?=some (.cells c t f)
theorem Ext.refl (lo:Nat) (w:World):Ext lo w w:=fun _ _ _ _ _ h=>h
theorem Ext.trans {lo:Nat} {a b c:World} (h:Ext lo a b) (k:Ext lo b c):Ext lo a c:=fun x y z u hl hx=>k x y z u hl (h x y z u hl hx)
theorem Grows.ext {w w':World} (h:Grows w w') (lo:Nat):Ext lo w w':=fun b c t f _ hb=>by
 obtain ⟨m,rfl⟩:=h
 rw [heap_more _ _ _ (Array.getElem?_eq_some_iff.1 hb).1];exact hb
theorem Ext.mono {lo lo':Nat} {w w':World} (h:Ext lo w w') (hl:lo≤lo'):Ext lo' w w':=fun b c t f hb=>h b c t f (by omega)
theorem Ext.cell {lo:Nat} {w w':World} (h:Ext lo w w') {b i:Nat} {v:Value} (hb:lo≤b) (hc:w.cell? ⟨b,i,none⟩=some v):w'.cell? ⟨b,i,none⟩=some v:=by
 cases hh:w.heap[b]? with
 | none=>simp [World.cell?,hh] at hc
 | some o =>
  cases o with
  | cells c t f =>
   have h2:=h b c t f hb hh
   rw [World.cell?_of_block (a:=⟨b,i,none⟩) (h2.trans hh.symm)]
   exact hc
  | _=>simp [World.cell?,hh] at hc
def Tells (lo:Nat) (w:World) (v:Value) (p:Int→Bool):Prop :=
 ∃ (f:FuncId) (caps:Array Value),v=.func (.func f) #[] caps∧Enters f∧∀ w' c,Ext lo w w'→0≤c→c≤255→Calls Tryz.prog f (#[.int .u8 c]++caps) w' fun e w''=>e=.returned (.bool (p c))∧w'=w''
theorem Tells.ext {lo:Nat} {w w':World} {v:Value} {p:Int→Bool} (h:Tells lo w v p) (hg:Ext lo w w'):Tells lo w' v p:=by
 obtain ⟨f,caps,hv,he,hc⟩:=h
 exact ⟨f,caps,hv,he,fun w'' c hg'=>hc w'' c (hg.trans hg')⟩
theorem Tells.grows {lo:Nat} {w w':World} {v:Value} {p:Int→Bool} (h:Tells lo w v p) (hg:Grows w w'):Tells lo w' v p:=h.ext (hg.ext lo)
theorem Tells.mono {lo lo':Nat} {w:World} {v:Value} {p:Int→Bool} (h:Tells lo w v p) (hl:lo'≤lo):Tells lo' w v p:=by
 obtain ⟨f,caps,hv,he,hc⟩:=h
 exact ⟨f,caps,hv,he,fun w' c hg=>hc w' c (hg.mono hl)⟩
theorem Tells.form {lo:Nat} {w:World} {v:Value} {p:Int→Bool} (h:Tells lo w v p):∃ f k,v=.func (.func f) #[] k:=by
 obtain ⟨f,k,h,_⟩:=h
 exact ⟨f,k,h⟩
def spanP (a b:Int) (c:Int):Bool:=decide (a≤c) && decide (c≤b)
theorem span1_any (a b c:Int) (g h:Nat) (w:World) (ha:w.cell? ⟨g,0,none⟩=some (.int .u8 a)) (hb:w.cell? ⟨h,0,none⟩=some (.int .u8 b)) :
  Calls Tryz.prog 114 #[.int .u8 c,.pointer (some ⟨g,0,none⟩),.pointer (some ⟨h,0,none⟩)] w fun e w'=>e=.returned (.bool (spanP a b c))∧w=w':=by
 by_cases h1:a≤c
 ·have d1:decide (a≤c)=true:=by simpa using h1
  go_enter Tryz.func114,Tryz.ntmps114
  go_wp2_with fail
  go_ret
  exact ⟨by simp [spanP,h1],rfl⟩
 ·have d1:decide (a≤c)=false:=by simpa using h1
  go_enter Tryz.func114,Tryz.ntmps114
  go_wp2_with fail
  go_ret
  exact ⟨by simp [spanP,d1],rfl⟩
def NewTell (p:Int→Bool) (w:World) (e:Ending) (w':World):Prop:=∃ v,e=.returned v∧Tells w.heap.size w' v p∧Grows w w'
theorem span_any (a b:Int) (w:World):Calls Tryz.prog 102 #[.int .u8 a,.int .u8 b] w (NewTell (spanP a b) w):=by
 go_enter Tryz.func102,Tryz.ntmps102
 go_wp2_with fail
 go_ret
 have hg:Grows w ((w.alloc (.cells #[.int .u8 a] 5)).alloc (.cells #[.int .u8 b] 5)):=((Grows.refl _).alloc _).alloc _
 refine ⟨_,rfl,⟨_,_,rfl,enters_of Tryz.func114 (by kernel_rfl) (by kernel_rfl),fun w' c hw _ _=>?_⟩,hg⟩
 exact span1_any a b c _ _ w' (hw.cell (Nat.le_refl _) (by simp [go_sem])) (hw.cell (Nat.le_succ _) (by simp [go_sem]))
def TellAll (lo:Nat) (w:World) (vs:List Value) (ps:List (Int→Bool)):Prop:=vs.length=ps.length∧∀ (i:Nat) v p,vs[i]?=some v→ps[i]?=some p→Tells lo w v p
theorem TellAll.ext {lo:Nat} {w w':World} {vs:List Value} {ps:List (Int→Bool)} (h:TellAll lo w vs ps) (hg:Ext lo w w'):TellAll lo w' vs ps:=⟨h.1,fun i v p hv hp=>(h.2 i v p hv hp).ext hg⟩
theorem TellAll.grows {lo:Nat} {w w':World} {vs:List Value} {ps:List (Int→Bool)} (h:TellAll lo w vs ps) (hg:Grows w w'):TellAll lo w' vs ps:=h.ext (hg.ext lo)
theorem Rd.ext {lo n b o:Nat} {w w':World} {xs:List Value} (h:Rd w 1 (some ⟨b,o,none⟩) n xs) (hb:lo≤b) (hw:Ext lo w w'):Rd w' 1 (some ⟨b,o,none⟩) n xs:=by
 refine ⟨h.1,fun hn=>?_⟩
 obtain ⟨b',o',e,hlt,hc⟩:=h.2 hn
 injection e with e
 injection e with e1 e2
 subst e1 e2
 have h0:∃ u,xs[0]?=some u:=by
  have:=h.1
  exact ⟨xs[0]'(by omega),List.getElem?_eq_getElem (by omega)⟩
 obtain ⟨u,hu⟩:=h0
 have h1:=hw.cell hb (hc 0 u hu)
 exact ⟨b,o,rfl,World.block_lt_of_cell? w' _ h1,fun j u hu=>hw.cell hb (hc j u hu)⟩
def someP (ps:List (Int→Bool)) (c:Int):Bool:=ps.any fun p=>p c
set_option maxHeartbeats 1000000 in
theorem some1_any (vs:List Value) (ps:List (Int→Bool)) (c:Int) (g b o cap:Nat) (w:World) (hc0:0≤c) (hc1:c≤255) (hn:vs.length≤1000000) (hg:w.cell? ⟨g,0,none⟩=some (.slice (some ⟨b,o,none⟩) vs.length cap)) (hR:Rd w 1 (some ⟨b,o,none⟩) vs.length vs) (lo:Nat) (hT:TellAll lo w vs ps) :
  Calls Tryz.prog 121 #[.int .u8 c,.pointer (some ⟨g,0,none⟩)] w fun e w'=>e=.returned (.bool (someP ps c))∧w=w':=by
 have HT:=Lib.hid hT
 have hl:=hT.1
 clear hT
 go_enter Tryz.func121,Tryz.ntmps121
 go_wp2_with fail
 go_loopg [5,8] vs.length (fun q _ i wr=>∃ k:Nat,q+k=vs.length∧i=.int .i64 k∧wr=w∧(ps.take k).any (fun p=>p c)=false)
 case atStart=>exact ⟨0,by omega,rfl,rfl,by simp⟩
 case round =>
  obtain ⟨k,hq,rfl,rfl,hno⟩:=hrel
  have HQ:=Lib.hid hq
  have HN:=Lib.hid hno
  have hkl:k≤vs.length:=by omega
  clear hq hno
  by_cases h1:k < vs.length
  ·obtain ⟨b',o',he,hb,ec⟩:=hR.at_ (j:=k) (by simpa using h1)
   injection he with he
   injection he with he1 he2
   subst he1 he2
   have hp:ps[k]?=some (ps[k]'(by omega)):=List.getElem?_eq_getElem (by omega)
   obtain ⟨f,caps,hv,hen,hcall⟩:=HT.out.2 k vs[k] _ (List.getElem?_eq_getElem h1) hp
   rw [hv] at ec
   have HC:=Lib.hid hcall
   have hent:=hen (#[.int .u8 c]++caps) wr
   have HA:Hid ((ps.take (k+1)).any (fun p=>p c)=(ps[k]'(by omega)) c):=Lib.hid (by rw [List.take_add_one,hp,List.any_append,HN.out];simp)
   clear hcall hv hp
   go_wp2_with fail
   (with_reducible refine (HC.out wr c (Ext.refl _ _) hc0 hc1).mono ?_)
   cases hpc:(ps[k]'(by omega)) c with
   | true =>
    have HV:Hid (someP ps c=true):=Lib.hid (List.any_eq_true.2 ⟨_,List.getElem_mem (by omega),hpc⟩)
    rintro e w' ⟨rfl,rfl⟩
    clear hpc
    go_wp2_with fail
    go_ret
    exact ⟨by rw [HV.out];rfl,rfl⟩
   | false =>
    rw [hpc] at HA
    rintro e w' ⟨rfl,rfl⟩
    clear hpc
    go_wp2_with fail
    go_roundg (gk - 1)
    case measure=>have:=HQ.out;omega
    case rel=>exact ⟨k+1,by have:=HQ.out;omega,by go_num,rfl,HA.out⟩
  ·have hk:ps.take k=ps:=List.take_of_length_le (by omega)
   have HV:Hid (someP ps c=false):=Lib.hid (by have:=HN.out;rwa [hk] at this)
   go_wp2_with fail
   go_ret
   exact ⟨by rw [HV.out];rfl,rfl⟩
def NewTellIn (lo:Nat) (p:Int→Bool) (w:World) (e:Ending) (w':World):Prop:=∃ v,e=.returned v∧Tells lo w' v p∧Grows w w'
set_option maxHeartbeats 1000000 in
theorem some_any (vs:List Value) (ps:List (Int→Bool)) (lo b o n cap:Nat) (w:World) (hn:vs.length≤1000000) (hnn:n=vs.length) (hb:lo≤b) (hlo:lo≤w.heap.size) (hR:Rd w 1 (some ⟨b,o,none⟩) vs.length vs) (hT:TellAll lo w vs ps) :
  Calls Tryz.prog 112 #[.slice (some ⟨b,o,none⟩) n cap] w (NewTellIn lo (someP ps) w):=by
 subst hnn
 go_enter Tryz.func112,Tryz.ntmps112
 go_wp2_with fail
 go_ret
 have hg:Grows w (w.alloc (.cells #[.slice (some ⟨b,o,none⟩) vs.length cap] 202)):=(Grows.refl _).alloc _
 refine ⟨_,rfl,⟨_,_,rfl,enters_of Tryz.func121 (by kernel_rfl) (by kernel_rfl),fun w' c hw h0 h1=>?_⟩,hg⟩
 exact some1_any vs ps c _ b o cap w' h0 h1 hn (hw.cell hlo (by simp [go_sem])) ((hR.grows hg).ext hb hw) lo ((hT.grows hg).ext hw)
theorem punct_any (f1 f2:FuncId) (k1 k2:Array Value) (p q:Int→Bool) (c:Int) (g h:Nat) (w:World) (hc0:0≤c) (hc1:c≤255) (ha:w.cell? ⟨g,0,none⟩=some (.func (.func f1) #[] k1)) (hb:w.cell? ⟨h,0,none⟩=some (.func (.func f2) #[] k2)) (lo:Nat) (hp:Tells lo w (.func (.func f1) #[] k1) p) (hq:Tells lo w (.func (.func f2) #[] k2) q) :
  Calls Tryz.prog 113 #[.int .u8 c,.pointer (some ⟨g,0,none⟩),.pointer (some ⟨h,0,none⟩)] w fun e w'=>e=.returned (.bool (p c && !(q c)))∧w=w':=by
 obtain ⟨f,caps,hv,hen,hcall⟩:=hp
 injection hv with e1 e2 e3
 injection e1 with e1
 subst e1 e3
 obtain ⟨f',caps',hv,hen',hcall'⟩:=hq
 injection hv with e1 e2 e3
 injection e1 with e1
 subst e1 e3
 have HC:=Lib.hid hcall
 have HC':=Lib.hid hcall'
 have hent:=hen (#[.int .u8 c]++k1) w
 have hent':=hen' (#[.int .u8 c]++k2) w
 clear hcall hcall' hen hen'
 go_enter Tryz.func113,Tryz.ntmps113
 go_wp2_with fail
 (with_reducible refine (HC.out w c (Ext.refl _ _) hc0 hc1).mono ?_)
 cases hpc:p c with
 | true =>
  rintro e w' ⟨rfl,rfl⟩
  have HPC:=Lib.hid hpc
  clear hpc
  go_wp2_with fail
  (with_reducible refine (HC'.out w c (Ext.refl _ _) hc0 hc1).mono ?_)
  rintro e w' ⟨rfl,rfl⟩
  go_wp2_with fail
  go_ret
  exact ⟨by rw [HPC.out];simp,rfl⟩
 | false =>
  rintro e w' ⟨rfl,rfl⟩
  have HPC:=Lib.hid hpc
  clear hpc
  go_wp2_with fail
  go_ret
  exact ⟨by rw [HPC.out];simp,rfl⟩
end Go.Proofs.YtnjagecmhdagkaaGreatDoor
