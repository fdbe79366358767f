/-
 Several texts of the proof: Row, Check, RegsPlain, MapB, Clone, RegsMem, BreMem.
-/
import Derived.Test.YtnjagecmhdagkaaGreatDoorPk00
import Derived.Laws.Rows
import Derived.Test.YtnjagecmhdagkaaGreatDoorPk04
import Derived.MapKept
import Derived.Lib.AppendZerosOnto
import Derived.Lib.Walk
import Derived.Lib.SliceRun
import Derived.Test.YtnjagecmhdagkaaGreatDoorPk07
import Derived.Test.YtnjagecmhdagkaaGreatDoorPk03
set_option linter.unusedSimpArgs false
set_option linter.unusedVariables false
set_option maxRecDepth 3000
/-
  A row of cells within a block: read and written at once, without unrolling.
-/
namespace Go.Proofs.YtnjagecmhdagkaaGreatDoor
open Go.RowKit
def over (c:Array Value) (o:Nat) (d:Array Value):Array Value:=(c.toList.take o++d.toList++c.toList.drop (o+d.size)).toArray
def span (c:Array Value) (o n:Nat):Array Value:=((c.toList.drop o).take n).toArray
section
variable {P:Program} (w:World)
theorem add_off (g o i:Nat):(⟨g,o,none⟩:Addr).add i=⟨g,o+i,none⟩:=by unfold Addr.add;split <;> simp_all
theorem run_loadVar_cells (g o:Nat) (ty:TypeId) (cs:List Value) (d:TypeDesc) (hc:∀ j v,cs[j]?=some v→w.cell? ⟨g,o+j,none⟩=some v) (hu:P.underlying ty=some d) (hd:d.isRow=true) (hi:(P.info? ty).map (·.size)=some cs.length) :
  (loadVar ty ⟨g,o,none⟩).run P w=.ok (.agg cs.toArray) w:=by
 have hl:(loadCells ⟨g,o,none⟩ cs.length).run P w=.ok cs.toArray w:=run_loadCells_list (P:=P) w ⟨g,o,none⟩ cs (fun j v hv=>by rw [add_off];exact hc j v hv)
 cases hq:P.info? ty with
 | none=>simp [hq] at hi
 | some i =>
  have hs:i.size=cs.length:=by simpa [hq] using hi
  have hagg:(isAgg ty).run P w=.ok true w:=by
   unfold isAgg
   rw [Sem.run_bind,run_underlying hu w]
   cases d <;> simp_all [TypeDesc.isRow]
  simp [loadVar,Sem.run_bind,hagg,sizeOf,typeInfo,hq,hs,hl]
def loadPart (P:Program) (w:World) (ty:TypeId) (g o n:Nat):Result Value:=(Instr.loadAt ty (.pointer (some ⟨g,o,none⟩))).run P w
def loadPartOdd (P:Program) (w:World) (ty:TypeId) (g o n:Nat):Result Value:=loadPart P w ty g o n
def RowOf (P:Program) (ty:TypeId) (n:Nat):Prop:=∃ d,P.underlying ty=some d∧d.isRow=true∧(P.info? ty).map (·.size)=some n
theorem loadPart_if (ty:TypeId) (g o n:Nat) (h:RowOf P ty n):loadPart P w ty g o n=if 0 < n∧o+n≤(blk w g).size then .ok (.agg (span (blk w g) o n)) w else loadPartOdd P w ty g o n:=by
 obtain ⟨d,hu,hd,hi⟩:=h
 split
 ·rename_i hs
  unfold loadPart
  have hlen:((((blk w g).toList.drop o).take n)).length=n:=by simp;omega
  obtain ⟨t,ht⟩:=blk_some w g (by omega)
  simp only [Instr.loadAt,Instr.sureAddr,Sem.run_bind,Sem.run_pure,Result.andThen_ok]
  rw [run_loadVar_cells w g o ty ((((blk w g).toList.drop o).take n)) d (fun j v hv=>?_) hu hd (by rw [hi,hlen])]
  ·rfl
  ·rw [cell_of_row w g _ _ t _ ht]
   rw [List.getElem?_take] at hv
   split at hv
   ·rw [List.getElem?_drop] at hv
    simpa using hv
   ·cases hv
 ·rfl
theorem run_storeCells_part (g o:Nat) (t:TypeId):∀ (vs:List Value) (i:Nat) (cur:Array Value) (w:World),w.heap[g]?=some (.cells cur t (0,0))→o+i+vs.length≤cur.size→(∀ v ∈ vs,v.oneCell'=true) →
  (storeCells ⟨g,o,none⟩ vs i).run P w=.ok () (w.setRow g (cur.toList.take (o+i)++vs++cur.toList.drop (o+i+vs.length)).toArray)
 | [],i,cur,w,hg,hl,_=>by
  have hlt:g < w.heap.size:=(Array.getElem?_eq_some_iff.1 hg).1
  simp only [storeCells,List.append_nil,List.length_nil,Nat.add_zero,List.take_append_drop,Array.toArray_toList]
  show Result.ok () w=_
  congr 1
  unfold World.setRow
  cases w with
  | mk heap tape drawn os output =>
   congr 1
   apply Array.ext_getElem?
   intro k
   rw [Array.getElem?_modify]
   split
   ·rename_i hk;subst hk;simp only at hg;rw [hg];rfl
   ·rfl
 | v::rest,i,cur,w,hg,hl,h1=>by
  have hi:o+i < cur.size:=by simp at hl;omega
  have hcell:w.cell? ⟨g,o+i,none⟩=some cur[o+i]:=by simp [World.cell?,hg,hi]
  have hfro:w.frozen? ⟨g,o+i,none⟩=false:=by simp [World.frozen?,hg]
  have hst:(store ((⟨g,o,none⟩:Addr).add i) v).run P w=.ok () (w.setRow g (cur.setIfInBounds (o+i) v)):=by
   rw [add_off,run_store P w _ v _ (h1 v (by simp)),hcell]
   simp [hfro,setCell_eq_setRow w g (o+i) cur t (0,0) v hg]
  have ih:=run_storeCells_part g o t rest (i+1) (cur.setIfInBounds (o+i) v) (w.setRow g (cur.setIfInBounds (o+i) v)) (setRow_heap w g cur _ t _ hg) (by simp at hl ⊢;omega) (fun x hx=>h1 x (by simp [hx]))
  simp only [storeCells,Sem.run_bind,hst,Result.andThen_ok,ih,setRow_setRow]
  congr 3
  have hset:cur.toList.set (o+i) v=cur.toList.take (o+i)++v::cur.toList.drop (o+i+1):=by
   rw [List.set_eq_take_append_cons_drop,if_pos (by simpa using hi)]
  have hk:(cur.toList.take (o+i)).length=o+i:=by simp;omega
  rw [Array.toList_setIfInBounds,hset]
  generalize cur.toList.take (o+i)=a at hk
  generalize hr:cur.toList.drop (o+i+1)=r
  have e1:o+(i+1)=a.length+1:=by omega
  have e2:cur.toList.drop (o+i+(v::rest).length)=r.drop rest.length:=by
   rw [← hr,List.drop_drop];congr 1;simp;omega
  rw [e2,e1]
  have e3:(a++v::r).take (a.length+1)=a++[v]:=by rw [List.take_append,List.take_of_length_le (by omega),show a.length+1 - a.length=1 by omega];rfl
  have e4:(a++v::r).drop (a.length+1+rest.length)=r.drop rest.length:=by
   rw [List.drop_append]
   have:a.drop (a.length+1+rest.length)=[]:=List.drop_eq_nil_of_le (by omega)
   rw [this,show a.length+1+rest.length - a.length=rest.length+1 by omega]
   rfl
  rw [e3,e4]
  simp
theorem run_storeAt_part (ty:TypeId) (g o n:Nat) (c:Array Value) (hi:(P.info? ty).map (·.size)=some n) (hn:0 < (blk w g).size) (hs:o+n≤(blk w g).size) (hc:c.size=n) (h1:OneCells c) :
  (Instr.storeAt ty (.pointer (some ⟨g,o,none⟩)) (.agg c)).run P w=.ok () (setBlk w g (over (blk w g) o c)):=by
 obtain ⟨t,ht⟩:=blk_some w g hn
 have h:=run_storeCells_part (P:=P) g o t c.toList 0 (blk w g) w ht (by simp;omega) (fun v hv=>(Array.all_eq_true_iff_forall_mem.1 h1) v (by simpa using hv))
 cases hq:P.info? ty with
 | none=>simp [hq] at hi
 | some i =>
  have hz:c.size=i.size:=by simp [hq] at hi;omega
  simp only [Instr.storeAt,Instr.sureAddr,Sem.run_bind,Sem.run_pure,Result.andThen_ok]
  simp only [Nat.add_zero] at h
  simp [storeVar,sizeOf,typeInfo,hq,Value.cells,hz,h,setBlk,over]
def storePart (P:Program) (w:World) (ty:TypeId) (g o:Nat) (c:Array Value):Result Unit:=(Instr.storeAt ty (.pointer (some ⟨g,o,none⟩)) (.agg c)).run P w
def storePartOdd (P:Program) (w:World) (ty:TypeId) (g o:Nat) (c:Array Value):Result Unit:=storePart P w ty g o c
theorem storePart_if (ty:TypeId) (g o n:Nat) (c:Array Value) (h:RowOf P ty n) (h1:OneCells c):storePart P w ty g o c=if 0 < n∧o+n≤(blk w g).size∧c.size=n then .ok () (setBlk w g (over (blk w g) o c)) else storePartOdd P w ty g o c:=by
 obtain ⟨d,hu,hd,hi⟩:=h
 split
 ·rename_i hs
  exact run_storeAt_part w ty g o n c hi (by omega) hs.2.1 hs.2.2 h1
 ·rfl
end
end Go.Proofs.YtnjagecmhdagkaaGreatDoor
namespace Go.Proofs.YtnjagecmhdagkaaGreatDoor
open Go.RowKit
def hasEnd (s:List UInt8):Bool:=s.contains 10
def tooLong (s:List UInt8):Bool:=decide (1000 < s.length)
def lcheckV (d:List (List UInt8)):Int:=if d.any hasEnd then 2 else if decide (2000 < d.length) || d.any tooLong then 3 else 0
end Go.Proofs.YtnjagecmhdagkaaGreatDoor
namespace Go.Proofs.YtnjagecmhdagkaaGreatDoor
open Go.RowKit
structure Rg where
 d:List (List UInt8)
 whole:Bool
def rg0:Rg:=⟨[],false⟩
abbrev RS:=Int→Option Rg
def rsSet (S:RS) (k:Int) (x:Rg):RS:=fun j=>if j=k then some x else S j
def rcheck (x:Rg):Bool:=decide (0 < x.d.length) && (lcheckV x.d == 0)
def RGood (S:RS):Prop:=∀ k x,S k=some x→rcheck x=true
theorem RGood.set {S:RS} (h:RGood S) (k:Int) {x:Rg} (hx:rcheck x=true):RGood (rsSet S k x):=by
 intro j y hy
 unfold rsSet at hy
 split at hy
 ·cases hy;exact hx
 ·exact h j y hy
theorem rcheck_len {x:Rg} (h:rcheck x=true):0 < x.d.length∧x.d.length≤2000∧∀ s ∈ x.d,s.length≤1000:=by
 unfold rcheck lcheckV at h
 simp only [Bool.and_eq_true,decide_eq_true_eq] at h
 obtain ⟨h1,h2⟩:=h
 refine ⟨h1,?_⟩
 split at h2
 ·simp at h2
 ·split at h2
  ·simp at h2
  ·rename_i h3
   simp only [Bool.or_eq_true,decide_eq_true_eq,List.any_eq_true,not_or,not_exists,not_and] at h3
   refine ⟨by omega,fun s hs=>?_⟩
   have:=h3.2 s hs
   simp [tooLong] at this
   omega
theorem rcheck_fits {x:Rg} (h:rcheck x=true):x.d.length≤2000∧∀ s ∈ x.d,s.length≤1000:=(rcheck_len h).2
theorem RGood.getD {S:RS} (h:RGood S) (k:Int):((S k).getD rg0).d.length≤2000∧∀ s ∈ ((S k).getD rg0).d,s.length≤1000:=by
 cases hk:S k with
 | none=>exact ⟨by simp [rg0],by simp [rg0]⟩
 | some x=>exact rcheck_fits (h _ _ hk)
end Go.Proofs.YtnjagecmhdagkaaGreatDoor
namespace Go.Proofs.YtnjagecmhdagkaaGreatDoor
open Go.RowKit Go.MapKept
def keyB (v:Value) (k:Int):Bool:=match v with | .int .u8 n=>decide (k=n) | _=>false
def lookB:List MapEntry→Int→Option Value
 | [],_=>none
 | e::es,k=>if keyB e.key k then some e.val else lookB es k
def lookBI:List MapEntry→Int→Nat→Option (Nat × Value)
 | [],_,_=>none
 | e::es,k,i=>if keyB e.key k then some (i,e.val) else lookBI es k (i+1)
theorem lookBI_look (es:List MapEntry) (k:Int):∀ i,(lookBI es k i).map (·.2)=lookB es k:=by
 induction es with
 | nil=>intro i;rfl
 | cons e es ih=>intro i;unfold lookBI lookB;split <;> simp [ih]
theorem lookBI_at (es:List MapEntry) (k:Int):∀ i j v,lookBI es k i=some (j,v)→i≤j∧∃ e,es[j - i]?=some e∧e.val=v∧keyB e.key k=true∧∀ m,m < j - i→∀ e',es[m]?=some e'→keyB e'.key k=false:=by
 induction es with
 | nil=>intro i j v h;cases h
 | cons e es ih =>
  intro i j v h
  unfold lookBI at h
  split at h
  ·rename_i hk
   injection h with h
   injection h with h1 h2
   subst h1 h2
   exact ⟨Nat.le_refl _,e,by simp,rfl,hk,fun m hm=>by omega⟩
  ·rename_i hk
   obtain ⟨h1,e',h2,h3,h4,h5⟩:=ih (i+1) j v h
   refine ⟨by omega,e',?_,h3,h4,fun m hm e2 he2=>?_⟩
   ·rw [show j - i=(j - (i+1))+1 by omega,List.getElem?_cons_succ];exact h2
   ·cases m with
    | zero=>simp at he2;subst he2;simpa using hk
    | succ m=>exact h5 m (by omega) e2 (by simpa using he2)
def ByteKeys (es:List MapEntry):Prop:=∀ e ∈ es,∃ n:Int,e.key=.int .u8 n
theorem keyB_self (k:Int):keyB (.int .u8 k) k=true:=by simp [keyB]
theorem keyB_ne {k j:Int} (h:j≠k):keyB (.int .u8 j) k=false:=by simp [keyB];omega
theorem keyB_eq {v:Value} {k:Int} (h:keyB v k=true):v=.int .u8 k:=by
 unfold keyB at h
 split at h
 ·simp at h;rw [h]
 ·cases h
theorem lookB_push (es:List MapEntry) (e:MapEntry) (k:Int):lookB (es++[e]) k=(lookB es k).or (if keyB e.key k then some e.val else none):=by
 induction es with
 | nil=>simp [lookB]
 | cons x es ih=>simp only [List.cons_append,lookB,ih];split <;> simp
def updM (M:Int→Option Value) (k:Int) (v:Value):Int→Option Value:=fun j=>if j=k then some v else M j
def MapIs (w:World) (r:Nat) (M:Int→Option Value):Prop:=∃ es clk,w.heap[r]?=some (.map es clk)∧ByteKeys es.toList∧Stamped es clk∧∀ k,lookB es.toList k=M k
def BMap (w:World) (r:Nat):Prop:=∃ es clk,w.heap[r]?=some (.map es clk)∧ByteKeys es.toList∧Stamped es clk
theorem MapIs.bmap {w:World} {r:Nat} {M:Int→Option Value} (h:MapIs w r M):BMap w r:=by
 obtain ⟨es,clk,h1,h2,h3,_⟩:=h
 exact ⟨es,clk,h1,h2,h3⟩
theorem BMap.lt {w:World} {r:Nat} (h:BMap w r):r < w.heap.size:=by
 obtain ⟨es,clk,h1,_⟩:=h
 exact (Array.getElem?_eq_some_iff.1 h1).1
def putO (w:World) (r:Nat) (o:Obj):World:={ w with heap:=w.heap.setIfInBounds r o }
theorem putO_at {w:World} {r:Nat} {o:Obj} (h:r < w.heap.size):(putO w r o).heap[r]?=some o:=by simp [putO,h]
theorem putO_ne {w:World} {r b:Nat} {o:Obj} (h:b≠r):(putO w r o).heap[b]?=w.heap[b]?:=by simp [putO,Ne.symm h]
theorem putO_size {w:World} {r:Nat} {o:Obj}:(putO w r o).heap.size=w.heap.size:=by simp [putO]
theorem lookB_modify (es:List MapEntry) (i:Nat) (f:MapEntry→MapEntry) (hk:∀ e,es[i]?=some e→keyB e.key=keyB (f e).key) (j:Int) :
  lookB (es.modify i f) j=match es[i]? with
   | none=>lookB es j
   | some e=>if keyB e.key j=true∧(∀ m,m < i→∀ e',es[m]?=some e'→keyB e'.key j=false) then some (f e).val else lookB es j:=by
 induction es generalizing i with
 | nil=>cases i <;> simp [lookB]
 | cons x es ih =>
  cases i with
  | zero =>
   have hx:=hk x (by simp)
   simp only [List.modify_zero_cons,List.getElem?_cons_zero,lookB,← hx]
   cases h:keyB x.key j <;> simp
  | succ i =>
   simp only [List.modify_succ_cons,List.getElem?_cons_succ,lookB]
   have:=ih i (fun e he=>hk e (by simpa using he))
   cases h:keyB x.key j with
   | true =>
    cases he:es[i]? with
    | none=>simp
    | some e =>
     simp only [if_true]
     rw [if_neg]
     rintro ⟨_,h2⟩
     have:=h2 0 (by omega) x (by simp)
     rw [h] at this;cases this
   | false =>
    simp only [Bool.false_eq_true,if_false,this]
    cases he:es[i]? with
    | none=>rfl
    | some e =>
     simp only []
     by_cases hc:keyB e.key j=true∧∀ m,m < i→∀ e',es[m]?=some e'→keyB e'.key j=false
     ·rw [if_pos hc,if_pos]
      refine ⟨hc.1,fun m hm e' he'=>?_⟩
      cases m with
      | zero=>simp at he';subst he';exact h
      | succ m=>exact hc.2 m (by omega) e' (by simpa using he')
     ·rw [if_neg hc,if_neg]
      rintro ⟨h1,h2⟩
      exact hc ⟨h1,fun m hm e' he'=>h2 (m+1) (by omega) e' (by simpa using he')⟩
theorem modify_bytes {es:List MapEntry} (h:ByteKeys es) (i:Nat) (k:Int) (v:Value):ByteKeys (es.modify i fun e=>{ e with key:=.int .u8 k,val:=v }):=by
 induction es generalizing i with
 | nil=>cases i <;> simpa using h
 | cons x es ih =>
  cases i with
  | zero =>
   intro e he
   simp only [List.modify_zero_cons,List.mem_cons] at he
   rcases he with rfl | he
   ·exact ⟨k,rfl⟩
   ·exact h e (List.mem_cons_of_mem _ he)
  | succ i =>
   intro e he
   simp only [List.modify_succ_cons,List.mem_cons] at he
   rcases he with rfl | he
   ·exact h e (List.mem_cons_self ..)
   ·exact ih (fun e he=>h e (List.mem_cons_of_mem _ he)) i e he
def updO (w:World) (r:Nat) (k:Int) (v:Value):Obj :=
 match w.heap[r]? with
 | some (.map es clk)=>(match lookBI es.toList k 0 with
  | none=>.map (es.push { key:=.int .u8 k,val:=v,born:=clk }) (clk+1)
  | some (i,_)=>.map (es.modify i fun e=>{ e with key:=.int .u8 k,val:=v }) clk)
 | some o=>o
 | none=>.map #[] 0
def putB (w:World) (r:Nat) (k:Int) (v:Value):World:=putO w r (updO w r k v)
def entO (w:World) (r:Nat) (k:Int) (z:Value):Obj :=
 match w.heap[r]? with
 | some (.map es clk)=>(match lookBI es.toList k 0 with
  | none=>.map (es.push { key:=.int .u8 k,val:=z,born:=clk }) (clk+1)
  | some (i,_)=>.map (es.modify i fun e=>{ e with key:=.int .u8 k }) clk)
 | some o=>o
 | none=>.map #[] 0
def entB (w:World) (r:Nat) (k:Int) (z:Value):World:=putO w r (entO w r k z)
def valB (w:World) (r:Nat) (k:Int) (z:Value):Value :=
 match w.heap[r]? with
 | some (.map es _)=>(lookB es.toList k).getD z
 | _=>z
def hasB (w:World) (r:Nat) (k:Int):Bool :=
 match w.heap[r]? with
 | some (.map es _)=>(lookB es.toList k).isSome
 | _=>false
section
variable {P:Program} {w:World} {r:Nat} {t kt et:TypeId}
theorem key_ne {es:List MapEntry} {k:Int} (h:lookBI es k 0=none):∀ x ∈ es,x.key≠.int .u8 k:=by
 have hf:=lookBI_look es k 0
 rw [h] at hf
 intro x hx e
 have:∀ es:List MapEntry,x ∈ es→(lookB es k).isSome=true:=by
  intro es
  induction es with
  | nil=>intro h;cases h
  | cons y es ih =>
   intro h
   unfold lookB
   split
   ·rfl
   ·rename_i hy
    rcases List.mem_cons.1 h with rfl | h
    ·rw [e,keyB_self] at hy;exact absurd rfl hy
    ·exact ih h
 have h2:=this es hx
 rw [← hf] at h2
 cases h2
end
section
variable {w:World} {r:Nat} {M:Int→Option Value} {k:Int} {z v:Value} {o:Obj} {m:More} {n:Nat}
theorem MapIs.val (h:MapIs w r M) (k:Int) (z:Value):valB w r k z=(M k).getD z:=by
 obtain ⟨es,clk,h1,h2,h3,h4⟩:=h
 unfold valB;rw [h1];simp only [h4]
theorem MapIs.put (h:MapIs w r M) (k:Int) (v:Value):MapIs (putB w r k v) r (updM M k v):=by
 have hlt:=h.bmap.lt
 obtain ⟨es,clk,hb,hs,hst,hM⟩:=h
 have hf:=lookBI_look es.toList k 0
 unfold putB updO
 rw [hb]
 simp only []
 cases h:lookBI es.toList k 0 with
 | none =>
  rw [h] at hf
  refine ⟨es.push { key:=.int .u8 k,val:=v,born:=clk },clk+1,putO_at hlt,?_,stamped_push hst (key_ne h),?_⟩
  ·intro e he
   simp only [Array.toList_push,List.mem_append,List.mem_singleton] at he
   rcases he with he | rfl
   ·exact hs e he
   ·exact ⟨k,rfl⟩
  ·intro j
   rw [Array.toList_push,lookB_push,hM]
   unfold updM
   by_cases hj:j=k
   ·subst hj
    rw [← hM,← hf,keyB_self]
    simp
   ·rw [if_neg hj,keyB_ne (Ne.symm hj)]
    simp
 | some x =>
  obtain ⟨i,u⟩:=x
  obtain ⟨_,e,h2,h3,h4,h5⟩:=lookBI_at _ _ _ _ _ h
  simp only [Nat.sub_zero] at h2 h5
  have hke:=keyB_eq h4
  have h2a:es[i]?=some e:=by simpa using h2
  refine ⟨es.modify i (fun e=>{ e with key:=.int .u8 k,val:=v }),clk,putO_at hlt,?_,stamped_modify hst _ _ (fun _ _=>rfl) (fun e' _ he'=>by rw [h2a] at he';cases he';exact hke.symm),?_⟩
  ·rw [Array.toList_modify]
   exact modify_bytes hs i k v
  ·intro j
   rw [Array.toList_modify,lookB_modify _ i _ (fun x hx=>by rw [h2] at hx;cases hx;rw [hke]) j,h2]
   simp only []
   unfold updM
   by_cases hj:j=k
   ·subst hj
    rw [if_pos ⟨h4,h5⟩,if_pos rfl]
   ·rw [if_neg,if_neg hj,hM]
    rintro ⟨h6,_⟩
    rw [hke,keyB_ne (Ne.symm hj)] at h6
    cases h6
theorem MapIs.bput (h:BMap w r) (k:Int) (v:Value):BMap (putB w r k v) r:=by
 obtain ⟨es,clk,h1,h2,h3⟩:=h
 exact (MapIs.put (M:=fun k=>lookB es.toList k) ⟨es,clk,h1,h2,h3,fun _=>rfl⟩ k v).bmap
@[go_sem] theorem bput (h:BMap w r):BMap (putB w r k v) r ↔ True:=⟨fun _=>trivial,fun _=>MapIs.bput h k v⟩
@[go_sem] theorem size_putB:(putB w r k v).heap.size=w.heap.size:=putO_size
@[go_sem] theorem inHeap_putB (b:Nat):InHeap b (putB w r k v) ↔ InHeap b w:=by unfold InHeap;rw [size_putB]
@[go_sem] theorem bmap_alloc (h:InHeap r w):BMap (w.alloc o) r ↔ BMap w r:=by unfold BMap;rw [Below.heap_alloc _ _ _ h]
@[go_sem] theorem bmap_more (h:InHeap r w):BMap (more w m) r ↔ BMap w r:=by unfold BMap;rw [heap_more _ _ _ h]
@[go_sem] theorem bmap_drew:BMap w.drew r ↔ BMap w r:=Iff.rfl
@[go_sem] theorem bmap_drewN:BMap (w.drewN n) r ↔ BMap w r:=Iff.rfl
@[go_sem] theorem val_alloc (h:InHeap r w):valB (w.alloc o) r k z=valB w r k z:=by unfold valB;rw [Below.heap_alloc _ _ _ h]
@[go_sem] theorem val_more (h:InHeap r w):valB (more w m) r k z=valB w r k z:=by unfold valB;rw [heap_more _ _ _ h]
@[go_sem] theorem val_drew:valB w.drew r k z=valB w r k z:=rfl
@[go_sem] theorem val_drewN:valB (w.drewN n) r k z=valB w r k z:=rfl
@[go_sem] theorem has_alloc (h:InHeap r w):hasB (w.alloc o) r k=hasB w r k:=by unfold hasB;rw [Below.heap_alloc _ _ _ h]
@[go_sem] theorem has_more (h:InHeap r w):hasB (more w m) r k=hasB w r k:=by unfold hasB;rw [heap_more _ _ _ h]
@[go_sem] theorem has_drew:hasB w.drew r k=hasB w r k:=rfl
@[go_sem] theorem has_drewN:hasB (w.drewN n) r k=hasB w r k:=rfl
@[go_sem] theorem cell_putB {b i:Nat} (h:¬ b=r):(putB w r k v).cell? ⟨b,i,none⟩=w.cell? ⟨b,i,none⟩:=World.cell?_of_block (putO_ne h)
@[go_sem] theorem frozen_putB {b i:Nat} (h:¬ b=r):(putB w r k v).frozen? ⟨b,i,none⟩=w.frozen? ⟨b,i,none⟩:=World.frozen?_of_block (putO_ne h)
@[go_sem] theorem cell_entB {b i:Nat} (h:¬ b=r):(entB w r k z).cell? ⟨b,i,none⟩=w.cell? ⟨b,i,none⟩:=World.cell?_of_block (putO_ne h)
@[go_sem] theorem frozen_entB {b i:Nat} (h:¬ b=r):(entB w r k z).frozen? ⟨b,i,none⟩=w.frozen? ⟨b,i,none⟩:=World.frozen?_of_block (putO_ne h)
end
end Go.Proofs.YtnjagecmhdagkaaGreatDoor
namespace Go.Proofs.YtnjagecmhdagkaaGreatDoor
open Go.RowKit
structure Part where
 A:Option Addr
 cap:Nat
 d:List (List UInt8)
def Part.val (p:Part):Value:=.slice p.A p.d.length p.cap
def Part.ok (w:World) (p:Part):Prop:=Rd w 1 p.A p.d.length (lv p.d)∧(p.A=none→p.d.length=0∧p.cap=0)
theorem Part.grows {w w':World} {p:Part} (h:p.ok w) (hg:Grows w w'):p.ok w':=⟨h.1.grows hg,h.2⟩
end Go.Proofs.YtnjagecmhdagkaaGreatDoor
namespace Go.Proofs.YtnjagecmhdagkaaGreatDoor
open Go.RowKit
structure Chg (p:Nat→Prop) (w w':World):Prop where
 os:w'.os=w.os
 tape:w'.tape=w.tape
 output:w'.output=w.output
 size:w.heap.size≤w'.heap.size
 block:∀ b,b < w.heap.size→¬ p b→w'.heap[b]?=w.heap[b]?
theorem Chg.of_grows {p:Nat→Prop} {w w':World} (h:Grows w w'):Chg p w w':=by
 have:=h.below
 exact ⟨this.os,this.tape,this.output,this.size,fun b hb _=>this.block b hb⟩
theorem Chg.refl (p:Nat→Prop) (w:World):Chg p w w:=Chg.of_grows (Grows.refl w)
theorem Chg.trans {p:Nat→Prop} {a b c:World} (h:Chg p a b) (k:Chg p b c):Chg p a c :=
 ⟨k.os.trans h.os,k.tape.trans h.tape,k.output.trans h.output,Nat.le_trans h.size k.size,fun x hx hp=>(k.block x (Nat.lt_of_lt_of_le hx h.size) hp).trans (h.block x hx hp)⟩
theorem Chg.mono {p q:Nat→Prop} {a b:World} (h:Chg p a b) (hpq:∀ x,x < a.heap.size→p x→q x):Chg q a b :=
 ⟨h.os,h.tape,h.output,h.size,fun x hx hq=>h.block x hx fun hp=>hq (hpq x hx hp)⟩
theorem Chg.putO {p:Nat→Prop} {w:World} {r:Nat} (h:p r) (o:Obj):Chg p w (putO w r o) :=
 ⟨rfl,rfl,rfl,by simp [Go.Proofs.YtnjagecmhdagkaaGreatDoor.putO],fun b _ hp=>putO_ne fun e=>hp (e ▸ h)⟩
theorem Chg.setCell {p:Nat→Prop} {w:World} {a:Addr} (h:p a.block) (v:Value):Chg p w (w.setCell a v):=by
 refine ⟨rfl,rfl,rfl,by simp,fun b hb hp=>?_⟩
 have hne:a.block≠b:=fun e=>hp (e ▸ h)
 show (w.heap.modify a.block _)[b]?=w.heap[b]?
 rw [Array.getElem?_modify,if_neg hne]
theorem Chg.cell {p:Nat→Prop} {w w':World} (h:Chg p w w') {a:Addr} (hb:a.block < w.heap.size) (hp:¬ p a.block):w'.cell? a=w.cell? a:=World.cell?_of_block (h.block _ hb hp)
theorem Chg.frozen {p:Nat→Prop} {w w':World} (h:Chg p w w') {a:Addr} (hb:a.block < w.heap.size) (hp:¬ p a.block):w'.frozen? a=w.frozen? a:=World.frozen?_of_block (h.block _ hb hp)
theorem Chg.grows {n:Nat} {W w w':World} {p:Nat→Prop} (hg:Grows W w) (h:Chg p w w') (hp:∀ b,p b→W.heap.size≤b):Grows W w':=by
 have hb:=hg.below
 exact Grows.of_below ⟨h.os.trans hb.os,h.tape.trans hb.tape,h.output.trans hb.output,Nat.le_trans hb.size h.size,fun k hk=>(h.block k (Nat.lt_of_lt_of_le hk hb.size) fun e=>by have:=hp k e;omega).trans (hb.block k hk)⟩
theorem Rd.chg {p:Nat→Prop} {w w':World} {size n:Nat} {A:Option Addr} {xs:List Value} (h:Rd w size A n xs) (hc:Chg p w w') (hp:0 < n→∀ a,A=some a→¬ p a.block):Rd w' size A n xs :=
 ⟨h.1,fun hn=>by
  obtain ⟨b,o,e,hb,hcell⟩:=h.2 hn
  have hnp:=hp hn _ e
  exact ⟨b,o,e,Nat.lt_of_lt_of_le hb hc.size,fun j u hu=>(hc.cell (a:=⟨b,o+j,none⟩) hb hnp).trans (hcell j u hu)⟩⟩
structure LRd (ok:Nat→Prop) (w:World) (A:Option Addr) (cap:Nat) (d:List (List UInt8)):Prop where
 rd:Rd w 1 A d.length (lv d)
 nil:A=none→d.length=0∧cap=0
 le:d.length≤cap
 cap63:cap≤9223372036854775807
 ok:0 < d.length→∀ a,A=some a→ok a.block
theorem LRd.chg {ok p:Nat→Prop} {w w':World} {A:Option Addr} {cap:Nat} {d:List (List UInt8)} (h:LRd ok w A cap d) (hc:Chg p w w') (hp:∀ b,b < w.heap.size→ok b→¬ p b):LRd ok w' A cap d :=
 ⟨h.rd.chg hc fun hn a e=>hp _ (by obtain ⟨b,o,e2,hb,_⟩:=h.rd.2 hn;rw [e] at e2;cases e2;exact hb) (h.ok hn a e),h.nil,h.le,h.cap63,h.ok⟩
theorem LRd.grows {ok:Nat→Prop} {w w':World} {A:Option Addr} {cap:Nat} {d:List (List UInt8)} (h:LRd ok w A cap d) (hg:Grows w w'):LRd ok w' A cap d:=h.chg (Chg.of_grows (p:=fun _=>False) hg) fun _ _ _ h=>h
theorem LRd.mono {ok ok':Nat→Prop} {w:World} {A:Option Addr} {cap:Nat} {d:List (List UInt8)} (h:LRd ok w A cap d) (ho:∀ b,b < w.heap.size→ok b→ok' b):LRd ok' w A cap d :=
 ⟨h.rd,h.nil,h.le,h.cap63,fun hn a e=>ho _ (by obtain ⟨b,o,e2,hb,_⟩:=h.rd.2 hn;rw [e] at e2;cases e2;exact hb) (h.ok hn a e)⟩
def RVal (ok:Nat→Prop) (w:World) (v:Value) (x:Rg):Prop:=∃ A cap,v=.agg #[.slice A x.d.length cap,.bool x.whole]∧LRd ok w A cap x.d
theorem RVal.chg {ok p:Nat→Prop} {w w':World} {v:Value} {x:Rg} (h:RVal ok w v x) (hc:Chg p w w') (hp:∀ b,b < w.heap.size→ok b→¬ p b):RVal ok w' v x:=by
 obtain ⟨A,cap,e,h⟩:=h
 exact ⟨A,cap,e,h.chg hc hp⟩
theorem RVal.grows {ok:Nat→Prop} {w w':World} {v:Value} {x:Rg} (h:RVal ok w v x) (hg:Grows w w'):RVal ok w' v x:=by
 obtain ⟨A,cap,e,h⟩:=h
 exact ⟨A,cap,e,h.grows hg⟩
theorem RVal.zero (ok:Nat→Prop) (w:World):RVal ok w (.agg #[.slice none 0 0,.bool false]) rg0:=⟨none,0,rfl,⟨Rd.nil_,by simp [rg0],by simp [rg0],by omega,by simp [rg0]⟩⟩
theorem RVal.mono {ok ok':Nat→Prop} {w:World} {v:Value} {x:Rg} (h:RVal ok w v x) (ho:∀ b,b < w.heap.size→ok b→ok' b):RVal ok' w v x:=by
 obtain ⟨A,cap,e,h⟩:=h
 exact ⟨A,cap,e,h.mono ho⟩
def OptVal (ok:Nat→Prop) (w:World):Option Value→Option Rg→Prop
 | none,none=>True
 | some v,some x=>RVal ok w v x
 | _,_=>False
theorem OptVal.chg {ok p:Nat→Prop} {w w':World} {v:Option Value} {x:Option Rg} (h:OptVal ok w v x) (hc:Chg p w w') (hp:∀ b,b < w.heap.size→ok b→¬ p b):OptVal ok w' v x:=by
 cases v <;> cases x <;> first | exact RVal.chg h hc hp | exact h
theorem OptVal.mono {ok ok':Nat→Prop} {w:World} {v:Option Value} {x:Option Rg} (h:OptVal ok w v x) (ho:∀ b,b < w.heap.size→ok b→ok' b):OptVal ok' w v x:=by
 cases v <;> cases x <;> first | exact RVal.mono h ho | exact h
theorem OptVal.isSome {ok:Nat→Prop} {w:World} {v:Option Value} {x:Option Rg} (h:OptVal ok w v x):v.isSome=x.isSome:=by
 cases v <;> cases x <;> first | rfl | exact h.elim
theorem OptVal.getD {ok:Nat→Prop} {w:World} {v:Option Value} {x:Option Rg} (h:OptVal ok w v x):RVal ok w (v.getD (.agg #[.slice none 0 0,.bool false])) (x.getD rg0):=by
 cases v <;> cases x <;> first | exact RVal.zero ok w | exact h | exact h.elim
def MapR (ok:Nat→Prop) (w:World) (r:Nat) (S:RS):Prop:=∃ M,MapIs w r M∧∀ k,OptVal ok w (M k) (S k)
theorem MapR.chg {ok p:Nat→Prop} {w w':World} {r:Nat} {S:RS} (h:MapR ok w r S) (hc:Chg p w w') (hr:¬ p r) (hp:∀ b,b < w.heap.size→ok b→¬ p b):MapR ok w' r S:=by
 obtain ⟨M,hM,hS⟩:=h
 have hrl:=hM.bmap.lt
 obtain ⟨es,clk,ho,hM⟩:=hM
 exact ⟨M,⟨es,clk,(hc.block r hrl hr).trans ho,hM⟩,fun k=>(hS k).chg hc hp⟩
theorem MapR.mono {ok ok':Nat→Prop} {w:World} {r:Nat} {S:RS} (h:MapR ok w r S) (ho:∀ b,b < w.heap.size→ok b→ok' b):MapR ok' w r S:=by
 obtain ⟨M,hM,hS⟩:=h
 exact ⟨M,hM,fun k=>(hS k).mono ho⟩
theorem MapR.grows {ok:Nat→Prop} {w w':World} {r:Nat} {S:RS} (h:MapR ok w r S) (hg:Grows w w'):MapR ok w' r S:=h.chg (Chg.of_grows (p:=fun _=>False) hg) (fun h=>h) fun _ _ _ h=>h
theorem MapR.lt {ok:Nat→Prop} {w:World} {r:Nat} {S:RS} (h:MapR ok w r S):r < w.heap.size:=by
 obtain ⟨M,hM,hS⟩:=h
 exact hM.bmap.lt
theorem MapR.put {ok:Nat→Prop} {w:World} {r:Nat} {S:RS} (h:MapR ok w r S) (hok:¬ ok r) (k:Int) {v:Value} {x:Rg} (hv:RVal ok w v x):MapR ok (putB w r k v) r (rsSet S k x):=by
 obtain ⟨M,hM,hS⟩:=h
 have hC:Chg (fun b=>b=r) w (putB w r k v):=Chg.putO (p:=fun b=>b=r) rfl _
 have hp:∀ b,b < w.heap.size→ok b→¬ b=r:=fun b _ h e=>hok (e ▸ h)
 refine ⟨updM M k v,hM.put k v,fun j=>?_⟩
 unfold updM rsSet
 by_cases hj:j=k
 ·rw [if_pos hj,if_pos hj];exact hv.chg hC hp
 ·rw [if_neg hj,if_neg hj];exact (hS j).chg hC hp
theorem MapR.bmap {ok:Nat→Prop} {w:World} {r:Nat} {S:RS} (h:MapR ok w r S):BMap w r:=by
 obtain ⟨M,hM,hS⟩:=h
 exact hM.bmap
abbrev rz:Value:=.agg #[.slice none 0 0,.bool false]
theorem MapR.val {ok:Nat→Prop} {w:World} {r:Nat} {S:RS} (h:MapR ok w r S) (k:Int):RVal ok w (valB w r k rz) ((S k).getD rg0):=by
 obtain ⟨M,hM,hS⟩:=h
 rw [hM.val k]
 exact (hS k).getD
end Go.Proofs.YtnjagecmhdagkaaGreatDoor
namespace Go.Proofs.YtnjagecmhdagkaaGreatDoor
open Go.RowKit
def ndA (kind byte:Int) (p:Nat→Bool) (n mn mx:Int) (k:Value):Array Value:=#[.int .i64 kind,.int .u8 byte]++SA p++#[.int .i64 n,.int .i64 mn,.int .i64 mx,k]
abbrev ndC (x:NdV) (k:Value):Array Value:=ndA x.kind x.byte x.set x.n x.mn x.mx k
def noSet:Nat→Bool:=fun _=>false
section
variable (kind byte:Int) (p:Nat→Bool) (n mn mx:Int) (k:Value)
@[go_sem] theorem ndA_size:(ndA kind byte p n mn mx k).size=262:=by simp [ndA]
theorem ndA_list:(ndA kind byte p n mn mx k).toList=.int .i64 kind::.int .u8 byte::(SA p).toList++[.int .i64 n,.int .i64 mn,.int .i64 mx,k]:=by simp [ndA]
theorem ndA_one (h:k.oneCell'=true):OneCells (ndA kind byte p n mn mx k):=by
 unfold OneCells
 rw [Array.all_eq_true_iff_forall_mem]
 intro v hv
 rw [← Array.mem_toList_iff,ndA_list] at hv
 have hS:∀ v ∈ (SA p).toList,v.oneCell'=true:=fun v hv=>by
  have:=oneCells_SA p
  unfold OneCells at this
  rw [Array.all_eq_true_iff_forall_mem] at this
  exact this v (by simpa using hv)
 simp only [List.mem_append,List.mem_cons,List.not_mem_nil,or_false] at hv
 rcases hv with (h1 | h1 | h1) | h1 | h1 | h1 | h1
 ·subst h1;rfl
 ·subst h1;rfl
 ·exact hS v h1
 ·subst h1;rfl
 ·subst h1;rfl
 ·subst h1;rfl
 ·subst h1;exact h
theorem ndA_one_slice (a:Option Addr) (l c:Nat):OneCells (ndA kind byte p n mn mx (.slice a l c)):=ndA_one _ _ _ _ _ _ _ rfl
theorem ndA_0:(ndA kind byte p n mn mx k)[0]?=some (.int .i64 kind):=by rw [← Array.getElem?_toList,ndA_list];rfl
theorem ndA_1:(ndA kind byte p n mn mx k)[1]?=some (.int .u8 byte):=by rw [← Array.getElem?_toList,ndA_list];rfl
theorem ndA_set (c:Nat) (h:c < 256):(ndA kind byte p n mn mx k)[2+c]?=some (.bool (p c)):=by
 rw [← Array.getElem?_toList,ndA_list,show 2+c=c+1+1 by omega]
 simp only [List.cons_append,List.getElem?_cons_succ]
 rw [List.getElem?_append_left (by simpa using h),Array.getElem?_toList]
 exact get_SA p c h
theorem ndA_tail (j:Nat):(ndA kind byte p n mn mx k)[258+j]?=[Value.int .i64 n,.int .i64 mn,.int .i64 mx,k][j]?:=by
 rw [← Array.getElem?_toList,ndA_list,show 258+j=(256+j)+1+1 by omega]
 simp only [List.cons_append,List.getElem?_cons_succ]
 rw [List.getElem?_append_right (by simp)]
 simp
theorem ndA_258:(ndA kind byte p n mn mx k)[258]?=some (.int .i64 n):=ndA_tail _ _ _ _ _ _ _ 0
theorem ndA_259:(ndA kind byte p n mn mx k)[259]?=some (.int .i64 mn):=ndA_tail _ _ _ _ _ _ _ 1
theorem ndA_260:(ndA kind byte p n mn mx k)[260]?=some (.int .i64 mx):=ndA_tail _ _ _ _ _ _ _ 2
theorem ndA_261:(ndA kind byte p n mn mx k)[261]?=some k:=ndA_tail _ _ _ _ _ _ _ 3
theorem ndA_setK (k':Value):(ndA kind byte p n mn mx k).setIfInBounds 261 k'=ndA kind byte p n mn mx k':=by
 have e:∀ k:Value,(ndA kind byte p n mn mx k).toList=(.int .i64 kind::.int .u8 byte::(SA p).toList++[.int .i64 n,.int .i64 mn,.int .i64 mx])++[k]:=fun k=>by rw [ndA_list];simp
 apply Array.toList_inj.1
 rw [Array.toList_setIfInBounds,e,e,List.set_append_right _ _ (by simp)]
 simp
end
theorem over_all {a c:Array Value} (h:a.size=c.size):over a 0 c=c:=by
 apply Array.toList_inj.1
 have h1:a.toList.length=c.size:=by simpa using h
 simp [over,List.drop_of_length_le (Nat.le_of_eq h1)]
theorem span_all {c:Array Value} {n:Nat} (h:c.size=n):span c 0 n=c:=by
 apply Array.toList_inj.1
 subst h
 simp only [span,List.drop_zero]
 exact List.take_of_length_le (by simp)
@[go_sem] theorem over_nd (a b:Int) (p:Nat→Bool) (c d e:Int) (k:Value) (a' b':Int) (p':Nat→Bool) (c' d' e':Int) (k':Value):over (ndA a b p c d e k) 0 (ndA a' b' p' c' d' e' k')=ndA a' b' p' c' d' e' k':=over_all (by rw [ndA_size,ndA_size])
@[go_sem] theorem span_nd (a b:Int) (p:Nat→Bool) (c d e:Int) (k:Value):span (ndA a b p c d e k) 0 262=ndA a b p c d e k:=span_all (ndA_size _ _ _ _ _ _ _)
theorem rowNode:RowOf Tryz.prog 95 262:=⟨_,Tryz.underlying95,rfl,by kernel_rfl⟩
theorem zeroNode (w:World):(zeroValue 95).run Tryz.prog w=.ok (.agg (ndA 0 0 noSet 0 0 0 (.slice none 0 0))) w:=by kernel_rfl
def bldNd (x:Array (Nat × Value)):Sem Value:=Instr.build 95 x
theorem bldNd_eq (x:Array (Nat × Value)):Instr.build 95 x=bldNd x:=rfl
section
variable (w:World) (g o:Nat) (c:Array Value)
theorem bld_kind (k:Int):(bldNd #[(0,.int .i64 k)]).run Tryz.prog w=.ok (.agg (ndA k 0 noSet 0 0 0 (.slice none 0 0))) w:=by kernel_rfl
theorem bld_byte (k b:Int):(bldNd #[(0,.int .i64 k),(1,.int .u8 b)]).run Tryz.prog w=.ok (.agg (ndA k b noSet 0 0 0 (.slice none 0 0))) w:=by kernel_rfl
theorem bld_set (k:Int) (p:Nat→Bool):(bldNd #[(0,.int .i64 k),(2,.agg (SA p))]).run Tryz.prog w=.ok (.agg (ndA k 0 p 0 0 0 (.slice none 0 0))) w:=by kernel_rfl
theorem bld_n (k n:Int):(bldNd #[(0,.int .i64 k),(3,.int .i64 n)]).run Tryz.prog w=.ok (.agg (ndA k 0 noSet n 0 0 (.slice none 0 0))) w:=by kernel_rfl
theorem bld_star (k n:Int) (a:Option Addr) (l d:Nat):(bldNd #[(0,.int .i64 k),(5,.int .i64 n),(6,.slice a l d)]).run Tryz.prog w=.ok (.agg (ndA k 0 noSet 0 0 n (.slice a l d))) w:=by kernel_rfl
theorem bld_times (k m n:Int) (a:Option Addr) (l d:Nat):(bldNd #[(0,.int .i64 k),(4,.int .i64 m),(5,.int .i64 n),(6,.slice a l d)]).run Tryz.prog w=.ok (.agg (ndA k 0 noSet 0 m n (.slice a l d))) w:=by kernel_rfl
def ldNode (x:Value):Sem Value:=Instr.loadAt 95 x
theorem ldNode_eq (x:Value):Instr.loadAt 95 x=ldNode x:=rfl
theorem loadNode:(ldNode (.pointer (some ⟨g,o,none⟩))).run Tryz.prog w=loadPart Tryz.prog w 95 g o 262:=rfl
theorem loadNode_if:loadPart Tryz.prog w 95 g o 262=if 0 < 262∧o+262≤(blk w g).size then .ok (.agg (span (blk w g) o 262)) w else loadPartOdd Tryz.prog w 95 g o 262:=loadPart_if w _ g o 262 rowNode
def stNode (x v:Value):Sem Unit:=Instr.storeAt 95 x v
theorem stNode_eq (x v:Value):Instr.storeAt 95 x v=stNode x v:=rfl
theorem storeNode:(stNode (.pointer (some ⟨g,o,none⟩)) (.agg c)).run Tryz.prog w=storePart Tryz.prog w 95 g o c:=rfl
theorem storeNode_if (h:OneCells c):storePart Tryz.prog w 95 g o c=if 0 < 262∧o+262≤(blk w g).size∧c.size=262 then .ok () (setBlk w g (over (blk w g) o c)) else storePartOdd Tryz.prog w 95 g o c:=storePart_if w _ g o 262 c rowNode h
theorem loadVarNode (h:(blk w g).size=262):(loadVar 95 ⟨g,0,none⟩).run Tryz.prog w=.ok (.agg (blk w g)) w:=by
 have h1:=loadNode_if w g 0
 rw [if_pos (by omega),span_all h] at h1
 have h2:(Instr.loadAt 95 (.pointer (some ⟨g,0,none⟩))).run Tryz.prog w=_:=h1
 simpa [Instr.loadAt,Instr.sureAddr] using h2
end
end Go.Proofs.YtnjagecmhdagkaaGreatDoor
