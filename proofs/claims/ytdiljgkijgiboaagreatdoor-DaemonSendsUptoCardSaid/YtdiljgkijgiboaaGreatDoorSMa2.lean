/- Used. -/
import Derived.Test.YtdiljgkijgiboaaGreatDoorSMa1
import Derived.IntWalk
import Derived.Laws.StructEq
import Derived.Lib.ConvBytes
import Derived.Laws.BytesArg
set_option linter.all false
namespace Go.Proofs.YtdiljgkijgiboaaGreatDoor
open Go.RowKit Go.Sort
def Rds(st:St):List (Nat×Slot)→Prop
 | []=>True
 |(o,s)::l=>st.heap o=s∧Rds st l
theorem Rds.all{st:St}:∀{l:List (Nat×Slot)},Rds st l→∀p∈l,st.heap p.1=p.2
 | [],_,p,hp=>by cases hp
 |(o,s)::l,h,p,hp=>by
  rcases qbA.1 hp with rfl|hp
  ·exact h.1
  ·exact Rds.all h.2 p hp
section
variable {P:Program}{ops:Array Oper}{K:List Foot→St→Prop}{o:Oper}{l:List Oper}{fs:List Foot}{st:St}
theorem zab{xs:List AV}{rds wrs:List (Nat×Slot)}{r:AV}(h:AOp P o xs rds wrs r)(hx:o.op.operands.toList.map st.ev=xs)(hg:zaJ ops o st=some true)(hr:Rds st rds)
 (k:ARun P ops K l (fs++[(rds.map Prod.fst,wrs.map Prod.fst)]) ((st.upd wrs).put o.dst r)):ARun P ops K (o::l) fs st:=
 ⟨_,_,.run rds wrs r hg (hx▸h) hr.all,k⟩
theorem zaa{xs:List AV}{r:AV}(h:AOp P o xs [] [] r)(hx:o.op.operands.toList.map st.ev=xs)(hg:zaJ ops o st=some true)
 (k:ARun P ops K l (fs++[([],[])]) (st.put o.dst r)):ARun P ops K (o::l) fs st:=
 ⟨_,_,.run [] [] r hg (hx▸h) (fun p hp=>by cases hp),k⟩
theorem r_mb{xs xs':List AV}{rds:List (Nat×Slot)}{r:AV}(b:Bool)(hg:zaJ ops o st=some b)(hx:o.op.operands.toList.map st.ev=xs) 
 (hxs:b=true→∀S m w us,RepL S m w xs us→RepL S m w xs' us) (h:b=true→AOp P o xs' rds [] r) (hr:b=true→Rds st rds)
 (k:ARun P ops K l (fs++[(rds.map Prod.fst,[])]) (st.put o.dst (.mb b r))):ARun P ops K (o::l) fs st:=by
 cases b with
 |true=>
  refine⟨(rds.map Prod.fst,[]),_,.run rds [] (.mb true r) hg ?_ (hr rfl).all,k⟩;intro w0 A S m heap w ev hm hR hrd;have:=h rfl w0 A S m heap w ev hm (hxs rfl _ _ _ _ (hx▸hR)) hrd;unfold Out at this⊢;generalize (execOp ev o).run P w=res at this⊢;cases res with
  |halt x w'=>exact this
  |ok n w'=>
   cases n<;>simp only[]at this⊢
   case value v=>
    obtain⟨S',m',h1,h2,h3⟩:=this;exact⟨S',m',by simp only[Rep];exact⟨fun _=>h1,fun h=>by cases h⟩,h2,h3⟩
   case skip=>
    obtain⟨S',m',h1,h2,h3⟩:=this;exact⟨S',m',by simp only[Rep];exact⟨fun _=>h1,fun h=>by cases h⟩,h2,h3⟩
   case enter f args=>
    refine this.mono fun e w'' ⟨v,he,S',m',h1,h2,h3⟩=>⟨v,he,S',m',by simp only[Rep];exact⟨fun _=>h1,fun h=>by cases h⟩,h2,h3⟩
   all_goals exact this
 |false=>exact⟨(rds.map Prod.fst,[]),_,.skip _ (.mb false r) hg (fun S m w=>by simp[Rep]),k⟩
end
theorem zaE{P:Program}{o:Oper}{xs:List AV}{r:AV}(h:∀S m w (ev:Operand→Value),RepL S m w xs (o.op.operands.toList.map ev)→∃v,(execOp ev o).run P w=.ok (.value v) w∧Rep S m w r v):
 AOp P o xs [] [] r:=by
 intro w0 A S m heap w ev hm hR _;obtain⟨v,h1,h2⟩:=h S m w ev hR;unfold Out;rw[h1];exact⟨S,m,h2,hm,Grow.refl _ _ _⟩
theorem zbQ{P:Program}{o:Oper}{xs:List AV}{rds:List (Nat×Slot)}{r:AV}(h:∀w0 A S m heap w (ev:Operand→Value),Mem w0 A S m heap w→RepL S m w xs (o.op.operands.toList.map ev)→(∀p∈rds,heap p.1=p.2)→
 ∃v,(execOp ev o).run P w=.ok (.value v) w∧Rep S m w r v):AOp P o xs rds [] r:=by
 intro w0 A S m heap w ev hm hR hrd;obtain⟨v,h1,h2⟩:=h w0 A S m heap w ev hm hR hrd;unfold Out;rw[h1];exact⟨S,m,h2,hm,Grow.refl _ _ _⟩
theorem zco{S:Nat→Prop}{m:Nat→Option Value}{w:World}{x:AV}{u:Value}(h:RepL S m w [x] [u]):Rep S m w x u:=by
 simp only[RepL]at h;obtain⟨a,as,h1,h2,h3⟩:=h;subst h3;simp only[List.cons.injEq,and_true]at h1;rw[h1];exact h2
theorem zb9{S:Nat→Prop}{m:Nat→Option Value}{w:World}{x y:AV}{u v:Value}(h:RepL S m w [x,y] [u,v]):Rep S m w x u∧Rep S m w y v:=by
 simp only[RepL]at h;obtain⟨a,as,h1,h2,b,bs,h4,h5,h6⟩:=h;subst h6;subst h4;simp only[List.cons.injEq,and_true]at h1;rw[h1.1,h1.2];exact⟨h2,h5⟩
theorem ziy{S:Nat→Prop}{m:Nat→Option Value}{w:World}{x y z:AV}{u v t:Value}(h:RepL S m w [x,y,z] [u,v,t]):Rep S m w x u∧Rep S m w y v∧Rep S m w z t:=by
 simp only[RepL]at h;obtain⟨a,as,h1,h2,b,bs,h4,h5,c,cs,h6,h7,h8⟩:=h;subst h8;subst h6;subst h4;simp only[List.cons.injEq,and_true]at h1;rw[h1.1,h1.2.1,h1.2.2];exact⟨h2,h5,h7⟩
theorem zbb{S:Nat→Prop}{m:Nat→Option Value}{w:World}{x u:Value}(h:Rep S m w (.p (.v x)) u):u=x:=by
 simp only[Rep,PRep]at h;exact h.1
theorem za7{S:Nat→Prop}{m:Nat→Option Value}{w:World}{x:Value}(h:x.oneCell'=true):Rep S m w (.p (.v x)) x:=by
 simp only[Rep,PRep];exact⟨trivial,h⟩
def AV.cells:AV→List AV
 | .agg cs=>cs
 |x=>[x]
def AV.stor:AV→Bool
 | .tup _=>false
 | .mb .. =>false
 | .any=>false
 |_=>true
theorem cells_one{u:Value}(h:u.oneCell'=true):u.cells= #[u]:=by cases u<;>simp_all[Value.cells,Value.oneCell']
theorem zc4{S:Nat→Prop}{m:Nat→Option Value}{w:World}{x:AV}{u:Value}(h:Rep S m w x u)(hs:x.stor=true):RepL S m w x.cells u.cells.toList∧∀y∈u.cells.toList,y.oneCell'=true:=by
 have one:u.oneCell'=true→x.cells=[x]→RepL S m w x.cells u.cells.toList∧∀y∈u.cells.toList,y.oneCell'=true:=by
  intro h1 h2;rw[cells_one h1,h2];refine⟨by simp only[RepL];exact⟨u,[],rfl,h,rfl⟩,fun y hy=>?_⟩;have:y=u:=by simpa using hy
  rw[this];exact h1
 cases x<;>simp only[AV.stor,qbJ]at hs
 case agg cs=>
  simp only[Rep]at h;obtain⟨us,rfl,h1,h2⟩:=h;exact⟨by simpa[AV.cells,Value.cells]using h1,by simpa[Value.cells]using h2⟩
 case p x=>exact one (by simp only[Rep]at h;exact h.one) rfl
 case ptr cs=>simp only[Rep]at h;obtain⟨b,off,vs,rfl,_⟩:=h;exact one rfl rfl
 case ref o off=>simp only[Rep]at h;obtain⟨b,_,_,_,rfl⟩:=h;exact one rfl rfl
 case row o=>simp only[Rep]at h;obtain⟨_,a,n,c,rfl⟩:=h;exact one rfl rfl
 case psl o off n size=>simp only[Rep]at h;obtain⟨a,cap,rfl,_⟩:=h;exact one rfl rfl
 case pslc o n=>simp only[Rep]at h;obtain⟨a,n0,c,_,rfl⟩:=h;exact one rfl rfl
 case fn f cs=>simp only[Rep]at h;obtain⟨us,rfl,_⟩:=h;exact one rfl rfl
 case sat p=>exact one (by simp only[Rep]at h;exact h.2) rfl
 case mp o=>simp only[Rep]at h;obtain⟨_,r,rfl⟩:=h;exact one rfl rfl
def setR{α:Type}(l:List α)(off:Nat)(vs:List α):List α:=l.take off++vs++l.drop (off+vs.length)
theorem zbV{α:Type}{l:List α}{off:Nat}{vs:List α}(h:off+vs.length≤l.length):(setR l off vs).length=l.length:=by
 simp only[setR,qbm,List.length_take,qbH];omega
theorem RepL.setR{S:Nat→Prop}{m:Nat→Option Value}{w:World}{cs xs:List AV}{us vs:List Value}(off:Nat)(h:RepL S m w cs us)(k:RepL S m w xs vs):RepL S m w (setR cs off xs) (setR us off vs):=by
 exact jao
theorem PRepL.setR{S:Nat→Prop}{w:World}{cs xs:List PV}{us vs:List Value}(off:Nat)(h:PRepL S w cs us)(k:PRepL S w xs vs):PRepL S w (setR cs off xs) (setR us off vs):=by
 exact jao
theorem zch(P:Program)(g o:Nat)(t:TypeId)(fz:Nat×Nat):∀(vs:List Value) (i:Nat) (cur:Array Value) (w:World),w.heap[g]?=some (.cells cur t fz)→(∀i,i<cur.size→¬(fz.1≤i∧i<fz.2))→
 o+i+vs.length≤cur.size→(∀v∈vs,v.oneCell'=true)→
 (storeCells ⟨g,o,none⟩ vs i).run P w=.ok () (w.setRow g (cur.toList.take (o+i)++vs++cur.toList.drop (o+i+vs.length)).toArray)
 | [],i,cur,w,hg,_,_,_=>by
  simp only[storeCells,List.append_nil,qcQ,qb4,qb9,Array.toArray_toList];rw[setRow_self w g cur t fz hg];rfl
 |v::rest,i,cur,w,hg,hfz,hl,h1=>by
  have hi:o+i<cur.size:=by simp at hl;omega
  have hadd:(⟨g,o,none⟩:Addr).add i=⟨g,o+i,none⟩:=by unfold Addr.add;split<;>simp_all
  have hcell:w.cell? ⟨g,o+i,none⟩=some cur[o+i]:=by simp[World.cell?,hg,hi]
  have hfro:w.frozen? ⟨g,o+i,none⟩=false:=by
   have:=hfz (o+i) hi;obtain⟨lo,hi'⟩:=fz;simp only[World.frozen?,hg,Bool.and_eq_false_iff,decide_eq_false_iff_not];simp only at this;omega
  have hst:(store ((⟨g,o,none⟩:Addr).add i) v).run P w=.ok () (w.setRow g (cur.setIfInBounds (o+i) v)):=by
   rw[hadd,run_store P w _ v _ (h1 v (by simp)),hcell];simp[hfro,setCell_eq_setRow w g (o+i) cur t fz v hg]
  have ih:=zch P g o t fz rest (i+1) (cur.setIfInBounds (o+i) v) (w.setRow g (cur.setIfInBounds (o+i) v)) (setRow_heap w g cur _ t _ hg) (by simpa using hfz) (by simp at hl⊢;omega) (fun x hx=>h1 x (by simp[hx]));simp only[storeCells,qbw,hst,qbr,ih,setRow_setRow]
  congr 3
  have e:=list_seg_step cur.toList (o+i) v rest (by simp at hl⊢;omega);simpa[Array.toList_setIfInBounds,qc8]using e
section
variable {w0:World}{A S:Nat→Prop}{m:Nat→Option Value}{heap:Nat→Slot}{w w':World}
def setM(m:Nat→Option Value)(d:Nat)(v:Value):Nat→Option Value:=fun o=>if o=d then some v else m o
theorem Mem.hB(hm:Mem w0 A S m heap w):w0.heap.size≤w.heap.size:=hm.bel.size
theorem zey(hm:Mem w0 A S m heap w)(hb:Below w.heap.size w w'){d:Nat}(hd:heap d=.un)(v:Value):Grow S m w S (setM m d v) w':=
 ⟨fun _ h=>h,fun b hS=>hb.block b (hm.sW b hS),fun o u hu=>by
  have hmd:m d=none:=hm.un d hd;have hne:o≠d:=fun e=>by rw[e,hmd]at hu;cases hu
  simpa[setM,hne]using hu⟩
theorem zev(hm:Mem w0 A S m heap w)(hb:Below w.heap.size w w')(d:Nat)(hd:heap d=.un)(v:Value)(ob:AObj)(hv:∀b,blk v=some b→w.heap.size≤b)
 (ho:ORep w0.heap.size S (setM m d v) w' ob v):Mem w0 A S (setM m d v) (updL heap [(d,.live ob)]) w'∧Grow S m w S (setM m d v) w':=by
 have hmd:m d=none:=hm.un d hd
 have g:Grow S m w S (setM m d v) w':=⟨fun _ h=>h,fun b hS=>hb.block b (hm.sW b hS),fun o u hu=>by
  have hne:o≠d:=fun e=>by rw[e,hmd]at hu;cases hu
  simpa[setM,hne]using hu⟩
 have hother:∀o ob' v',heap o=.live ob'→m o=some v'→∀b,blk v'=some b→b<w.heap.size:=fun o ob' v' h1 h2 b hb'=>by
  obtain⟨u,k1,k2,_⟩:=hm.live o ob' h1;rw[h2]at k1;cases k1;exact(k2.lt hb').2
 refine⟨⟨hm.bel.trans (hb.mono hm.hB),hm.sA,fun b h=>qca (hm.sW b h) hb.size,fun o ho'=>?_,fun o ob' ho'=>?_,fun o o' ob1 ob2 v1 v2 b h1 h2 h3 h4 h5 h6=>?_,hm.gl⟩,g⟩
 ·by_cases e:o=d
  ·subst e;simp[updL]at ho'
  ·simp only[updL,nbeq e,cond_false]at ho';simp only[setM,if_neg e];exact hm.un o ho'
 ·by_cases e:o=d
  ·subst e;simp only[updL,qcq,cond_true,Slot.live.injEq]at ho';subst ho';exact⟨v,by simp[setM],ho,fun b hb' hS=>absurd (hm.sW b hS) (by have:=hv b hb';omega)⟩
  ·simp only[updL,nbeq e,cond_false]at ho';obtain⟨v',k1,k2,k3⟩:=hm.live o ob' ho';exact⟨v',by simpa[setM,e]using k1,k2.mono g fun b hb'=>hb.block b (k2.lt hb').2,k3⟩
 ·by_cases e:o=d<;>by_cases e':o'=d
  ·rw[e,e']
  ·subst e;simp only[updL,nbeq e',cond_false]at h2;simp only[setM,if_neg e']at h4;simp only[setM,if_true,Option.some.injEq]at h3;subst h3;have:=hother o' ob2 v2 h2 h4 b h6;have:=hv b h5;omega
  ·subst e';simp only[updL,nbeq e,cond_false]at h1;simp only[setM,if_neg e]at h3;simp only[setM,if_true,Option.some.injEq]at h4;subst h4;have:=hother o ob1 v1 h1 h3 b h5;have:=hv b h6;omega
  ·simp only[updL,nbeq e,cond_false]at h1;simp only[updL,nbeq e',cond_false]at h2;simp only[setM,if_neg e]at h3;simp only[setM,if_neg e']at h4;exact hm.inj _ _ _ _ _ _ _ h1 h2 h3 h4 h5 h6
theorem zgg(hm:Mem w0 A S m heap w){o:Nat}{ob ob':AObj}{v:Value}{b:Nat}{cur:Array Value}{t:TypeId}{fz:Nat×Nat}(cs:Array Value)(hl:heap o=.live ob)(hv:m o=some v)(hb:blk v=some b)
 (ho:ORep w0.heap.size S m (w.setRow b cs) ob' v):
 Mem w0 A S m (updL heap [(o,.live ob')]) (w.setRow b cs)∧Grow S m w S m (w.setRow b cs):=by
 obtain⟨v',k1,k2,k3⟩:=hm.live o ob hl;rw[hv]at k1;cases k1;have hlt:=k2.lt hb;have g:Grow S m w S m (w.setRow b cs):=⟨fun _ h=>h,fun c hS=>setRow_other w b c cs (fun e=>k3 b hb (e▸hS)),fun _ _ h=>h⟩;have hbw:Below w0.heap.size w (w.setRow b cs):=⟨rfl,rfl,rfl,by simp[World.setRow],fun k hk=>setRow_other w b k cs qp⟩;refine⟨⟨hm.bel.trans hbw,hm.sA,fun b' h=>by have:=hm.sW b' h;simpa[World.setRow]using this,fun o' ho'=>?_,fun o' ob2 ho'=>?_,fun o1 o2 ob1 ob2 v1 v2 b' h1 h2 h3 h4 h5 h6=>?_,hm.gl⟩,g⟩
 ·exact jam
 ·by_cases e:o'=o
  ·exact jan
  ·simp only[updL,nbeq e,cond_false]at ho';obtain⟨u,j1,j2,j3⟩:=hm.live o' ob2 ho';exact⟨u,j1,j2.mono g fun b' hb'=>setRow_other w b b' cs (fun eb=>by subst eb;exact e (hm.inj _ _ _ _ _ _ _ ho' hl j1 hv hb' hb)),j3⟩
 ·exact jab
theorem mem_append(hm:Mem w0 A S m heap w){o d:Nat}{ob ob':AObj}{v v':Value}(hl:heap o=.live ob)(hd:heap d=.un)(hv:m o=some v)
 (hg:w.grownBy w' (blk v)) (hvb:blk v'=blk v∨blk v'=some w.heap.size) (ho:ORep w0.heap.size S (setM m d v') w' ob' v'):
 Mem w0 A S (setM m d v') (updL heap [(d,.live ob'),(o,.dead)]) w'∧Grow S m w S (setM m d v') w':=by
 have hmd:m d=none:=hm.un d hd;obtain⟨u,k1,k2,k3⟩:=hm.live o ob hl;rw[hv]at k1;cases k1;have hdo:d≠o:=fun e=>by rw[e,hl]at hd;cases hd
 have g:Grow S m w S (setM m d v') w':=⟨fun _ h=>h,fun b hS=>hg.block b (hm.sW b hS) (fun e=>k3 b e.symm hS),fun o u hu=>by
  have hne:o≠d:=fun e=>by rw[e,hmd]at hu;cases hu
  simpa[setM,hne]using hu⟩
 have hbw:Below w0.heap.size w w':=⟨hg.os,hg.tape,hg.output,hg.size,fun k hk=>hg.block k (by have:=hm.hB;omega) (fun e=>by have:=(k2.lt e.symm).1;omega)⟩
 have hother:∀o ob' v',heap o=.live ob'→m o=some v'→∀b,blk v'=some b→b<w.heap.size:=fun o ob' v' h1 h2 b hb'=>by
  obtain⟨u,k1,k2,_⟩:=hm.live o ob' h1;rw[h2]at k1;cases k1;exact(k2.lt hb').2
 have key:∀{x:Nat} {obx:AObj},x≠d→updL heap [(d,.live ob'),(o,.dead)] x=.live obx→x≠o∧heap x=.live obx:=by
  intro x obx hxd hx
  by_cases e:x=o
  ·subst e;simp[updL,nbeq hxd]at hx
  ·simp only[updL,nbeq hxd,nbeq e,cond_false]at hx;exact⟨e,hx⟩
 refine⟨⟨hm.bel.trans hbw,hm.sA,fun b h=>qca (hm.sW b h) hg.size,fun x hx=>?_,fun x obx hx=>?_,fun x y ob1 ob2 v1 v2 b h1 h2 h3 h4 h5 h6=>?_,hm.gl⟩,g⟩
 ·by_cases e:x=d
  ·subst e;simp[updL]at hx
  ·by_cases e2:x=o
   ·subst e2;simp[updL,nbeq e]at hx
   ·simp only[updL,nbeq e,nbeq e2,cond_false]at hx;simp only[setM,if_neg e];exact hm.un x hx
 ·by_cases e:x=d
  ·subst e;simp only[updL,qcq,cond_true,Slot.live.injEq]at hx;subst hx;refine⟨v',by simp[setM],ho,fun b hb hS=>?_⟩;rcases hvb with h|h
   ·exact k3 b (h▸hb) hS
   ·rw[h]at hb;cases hb;exact absurd (hm.sW _ hS) qp
  ·obtain⟨hxo,hx⟩:=key e hx;obtain⟨u,j1,j2,j3⟩:=hm.live x obx hx;exact⟨u,by simpa[setM,e]using j1,j2.mono g fun b hb=>hg.block b (j2.lt hb).2 (fun eb=>hxo (hm.inj _ _ _ _ _ _ _ hx hl j1 hv hb eb.symm)),j3⟩
 ·have sep:∀{x:Nat} {obx:AObj} {vx:Value},x≠d→updL heap [(d,.live ob'),(o,.dead)] x=.live obx→setM m d v' x=some vx→blk vx=some b→blk v'=some b→False:=by
   intro x obx vx hxd hx hmx hbx hbv;obtain⟨hxo,hx⟩:=key hxd hx;simp only[setM,if_neg hxd]at hmx;rcases hvb with h|h
   ·exact hxo (hm.inj _ _ _ _ _ _ _ hx hl hmx hv hbx (h▸hbv))
   ·rw[h]at hbv;cases hbv;have:=hother x obx vx hx hmx _ hbx;omega
  by_cases e:x=d<;>by_cases e':y=d
  ·rw[e,e']
  ·subst e;simp only[setM,if_true,Option.some.injEq]at h3;subst h3;exact(sep e' h2 h4 h6 h5).elim
  ·subst e';simp only[setM,if_true,Option.some.injEq]at h4;subst h4;exact(sep e h1 h3 h5 h6).elim
  ·obtain⟨_,g1⟩:=key e h1;obtain⟨_,g2⟩:=key e' h2;simp only[setM,if_neg e]at h3;simp only[setM,if_neg e']at h4;exact hm.inj _ _ _ _ _ _ _ g1 g2 h3 h4 h5 h6
end
section
variable {P:Program}{d:Option Tmp}{ty:TypeId}{pos:String}{af:Array Edge}{g:Option (Nat×Bool)}
theorem zah{x:Operand}{r:AV}:AOp P ⟨d,.move x,ty,pos,af,g⟩ [r] [] [] r:=
 zaE fun S m w ev h=>⟨ev x,rfl,zco h⟩
theorem zaG{x:Operand}{r:AV}:AOp P ⟨d,.assign x,ty,pos,af,g⟩ [r] [] [] r:=
 zaE fun S m w ev h=>⟨ev x,rfl,zco h⟩
theorem zbj(op:BinOp)(t:TypeId)(x y:Operand)(k k':IntKind)(a b:Int)(w:World):(eqGuard op t x y (.int k a) (.int k' b)).run P w=.ok () w:=by
 unfold eqGuard;cases op<;>rfl
theorem zcG{op:BinOp}{xt yt:TypeId}{x y:Operand}{X Y R:Value}(hg:∀w,(eqGuard op xt x y X Y).run P w=.ok () w)(h:∀w,(binOp op xt X Y).run P w=.ok R w)(h1:R.oneCell'=true):
 AOp P ⟨d,.binOp op xt x y yt,ty,pos,af,g⟩ [.p (.v X),.p (.v Y)] [] [] (.p (.v R)):=
 zaE fun S m w ev hr=>by
  have hr':RepL S m w [.p (.v X),.p (.v Y)] [ev x,ev y]:=hr;obtain⟨h2,h3⟩:=zb9 hr';refine⟨R,?_,za7 h1⟩;simp only[execOp,zbb h2,zbb h3,qbw,hg w,qbr,h w,qbx]
section
variable {xt yt:TypeId}{x y:Operand}{k:IntKind}{a b c:Int}
theorem zbf(h:k.wrap (a+b)=c):AOp P ⟨d,.binOp .add xt x y yt,ty,pos,af,g⟩ [.p (.v (.int k a)),.p (.v (.int k b))] [] [] (.p (.v (.int k c))):=
 zcG (zbj _ _ _ _ _ _ _ _) (fun w=>by subst h;simp[binOp,Op.intArith]) rfl
theorem ziu(h:k.wrap (a-b)=c):AOp P ⟨d,.binOp .sub xt x y yt,ty,pos,af,g⟩ [.p (.v (.int k a)),.p (.v (.int k b))] [] [] (.p (.v (.int k c))):=
 zcG (zbj _ _ _ _ _ _ _ _) (fun w=>by subst h;simp[binOp,Op.intArith]) rfl
theorem a_mul(h:k.wrap (a*b)=c):AOp P ⟨d,.binOp .mul xt x y yt,ty,pos,af,g⟩ [.p (.v (.int k a)),.p (.v (.int k b))] [] [] (.p (.v (.int k c))):=
 zcG (zbj _ _ _ _ _ _ _ _) (fun w=>by subst h;simp[binOp,Op.intArith]) rfl
theorem zfs(h0:b≠0)(h:k.wrap (a.tdiv b)=c):AOp P ⟨d,.binOp .quo xt x y yt,ty,pos,af,g⟩ [.p (.v (.int k a)),.p (.v (.int k b))] [] [] (.p (.v (.int k c))):=
 zcG (zbj _ _ _ _ _ _ _ _) (fun w=>by subst h;simp[binOp,Op.intDiv,h0]) rfl
theorem ziv(h0:b≠0)(h:a.tmod b=c):AOp P ⟨d,.binOp .rem xt x y yt,ty,pos,af,g⟩ [.p (.v (.int k a)),.p (.v (.int k b))] [] [] (.p (.v (.int k c))):=
 zcG (zbj _ _ _ _ _ _ _ _) (fun w=>by subst h;simp[binOp,Op.intDiv,h0]) rfl
theorem zaV{op:BinOp}(hop:op=.and∨op=.or∨op=.xor∨op=.andNot)(h:bits op k a b=c):AOp P ⟨d,.binOp op xt x y yt,ty,pos,af,g⟩ [.p (.v (.int k a)),.p (.v (.int k b))] [] [] (.p (.v (.int k c))):=
 zcG (zbj _ _ _ _ _ _ _ _) (fun w=>by subst h;rcases hop with rfl|rfl|rfl|rfl<;>simp[binOp,Op.intBits,bits]) rfl
theorem a_shl{k':IntKind}(h0:0≤b)(h:k.wrap (a*2^min b.toNat k.bits)=c):AOp P ⟨d,.binOp .shl xt x y yt,ty,pos,af,g⟩ [.p (.v (.int k a)),.p (.v (.int k' b))] [] [] (.p (.v (.int k c))):=
 zcG (zbj _ _ _ _ _ _ _ _) (fun w=>by subst h;simp[binOp,Op.shift,show¬b<0 by omega]) rfl
theorem zbH{k':IntKind}(h0:0≤b)(h:a.fdiv (2^min b.toNat k.bits)=c):AOp P ⟨d,.binOp .shr xt x y yt,ty,pos,af,g⟩ [.p (.v (.int k a)),.p (.v (.int k' b))] [] [] (.p (.v (.int k c))):=
 zcG (zbj _ _ _ _ _ _ _ _) (fun w=>by subst h;simp[binOp,Op.shift,show¬b<0 by omega]) rfl
theorem a_eql:AOp P ⟨d,.binOp .eql xt x y yt,ty,pos,af,g⟩ [.p (.v (.int k a)),.p (.v (.int k b))] [] [] (.p (.v (.bool (a==b)))):=
 zcG (zbj _ _ _ _ _ _ _ _) (fun w=>by simp[binOp,Op.intCmp]) rfl
theorem ziw:AOp P ⟨d,.binOp .neq xt x y yt,ty,pos,af,g⟩ [.p (.v (.int k a)),.p (.v (.int k b))] [] [] (.p (.v (.bool (a != b)))):=
 zcG (zbj _ _ _ _ _ _ _ _) (fun w=>by simp[binOp,Op.intCmp]) rfl
theorem zcM:AOp P ⟨d,.binOp .lss xt x y yt,ty,pos,af,g⟩ [.p (.v (.int k a)),.p (.v (.int k b))] [] [] (.p (.v (.bool (decide (a<b))))):=
 zcG (zbj _ _ _ _ _ _ _ _) (fun w=>by simp[binOp,Op.intCmp]) rfl
theorem a_leq:AOp P ⟨d,.binOp .leq xt x y yt,ty,pos,af,g⟩ [.p (.v (.int k a)),.p (.v (.int k b))] [] [] (.p (.v (.bool (decide (a≤b))))):=
 zcG (zbj _ _ _ _ _ _ _ _) (fun w=>by simp[binOp,Op.intCmp]) rfl
theorem a_gtr:AOp P ⟨d,.binOp .gtr xt x y yt,ty,pos,af,g⟩ [.p (.v (.int k a)),.p (.v (.int k b))] [] [] (.p (.v (.bool (decide (b<a))))):=
 zcG (zbj _ _ _ _ _ _ _ _) (fun w=>by simp[binOp,Op.intCmp]) rfl
theorem a_geq:AOp P ⟨d,.binOp .geq xt x y yt,ty,pos,af,g⟩ [.p (.v (.int k a)),.p (.v (.int k b))] [] [] (.p (.v (.bool (decide (b≤a))))):=
 zcG (zbj _ _ _ _ _ _ _ _) (fun w=>by simp[binOp,Op.intCmp]) rfl
theorem zdC(op:BinOp)(t:TypeId)(x y:Operand)(a b:ByteArray)(w:World):(eqGuard op t x y (.string a) (.string b)).run P w=.ok () w:=by
 unfold eqGuard;cases op<;>rfl
theorem guard_bool(op:BinOp)(t:TypeId)(x y:Operand)(a b:Bool)(w:World):(eqGuard op t x y (.bool a) (.bool b)).run P w=.ok () w:=by
 unfold eqGuard;cases op<;>rfl
theorem zfC(s t:ByteArray):(s.toList==t.toList)=decide (s=t):=by
 rw[ByteArray.toList_eq,ByteArray.toList_eq,qb1];simp only[beq_iff_eq,decide_eq_true_eq];refine⟨fun e=>?_,fun e=>by rw[e]⟩;cases s;cases t;simp only[ByteArray.mk.injEq];exact Array.toList_inj.1 e
theorem zji{s t:ByteArray}:AOp P ⟨d,.binOp .eql xt x y yt,ty,pos,af,g⟩ [.p (.v (.string s)),.p (.v (.string t))] [] [] (.p (.v (.bool (decide (s=t))))):=
 zcG (zdC _ _ _ _ _ _) (fun w=>by simp only[binOp,Op.stringOp,zfC,qbx]) rfl
theorem a_sneq{s t:ByteArray}:AOp P ⟨d,.binOp .neq xt x y yt,ty,pos,af,g⟩ [.p (.v (.string s)),.p (.v (.string t))] [] [] (.p (.v (.bool (!decide (s=t))))):=
 zcG (zdC _ _ _ _ _ _) (fun w=>by simp only[binOp,Op.stringOp,zfC,qbx]) rfl
def sLt(s t:ByteArray):Bool:=Op.bytesLess s.toList t.toList
theorem a_slss{s t:ByteArray}:AOp P ⟨d,.binOp .lss xt x y yt,ty,pos,af,g⟩ [.p (.v (.string s)),.p (.v (.string t))] [] [] (.p (.v (.bool (sLt s t)))):=
 zcG (zdC _ _ _ _ _ _) (fun w=>by simp[binOp,Op.stringOp,sLt]) rfl
theorem a_sleq{s t:ByteArray}:AOp P ⟨d,.binOp .leq xt x y yt,ty,pos,af,g⟩ [.p (.v (.string s)),.p (.v (.string t))] [] [] (.p (.v (.bool (sLt s t||decide (s=t))))):=
 zcG (zdC _ _ _ _ _ _) (fun w=>by simp only[binOp,Op.stringOp,sLt,zfC,qbx]) rfl
theorem zb8{s t u:ByteArray}(h0:s.size+t.size≤9223372036854775807)(h:s++t=u):AOp P ⟨d,.binOp .add xt x y yt,ty,pos,af,g⟩ [.p (.v (.string s)),.p (.v (.string t))] [] [] (.p (.v (.string u))):=
 zcG (zdC _ _ _ _ _ _) (fun w=>by
  subst h;have:¬(((s.size+t.size:Nat):Int)>IntKind.i64.max):=by simp[IntKind.max,IntKind.signed,IntKind.bits];omega
  simp only[binOp,Op.stringOp,if_neg this,qbx]) rfl
theorem a_beql{s t:Bool}(hu:P.underlying xt=some .bool):AOp P ⟨d,.binOp .eql xt x y yt,ty,pos,af,g⟩ [.p (.v (.bool s)),.p (.v (.bool t))] [] [] (.p (.v (.bool (s==t)))):=
 zcG (guard_bool _ _ _ _ _ _) (fun w=>run_eql_bool w xt s t hu) rfl
end
theorem a_not{x:Operand}{xt:TypeId}{b:Bool}:AOp P ⟨d,.unOp .not xt x,ty,pos,af,g⟩ [.p (.v (.bool b))] [] [] (.p (.v (.bool (!b)))):=
 zaE fun S m w ev hr=>by
  have h:=zbb (zco (x:=.p (.v (.bool b))) (u:=ev x) hr);exact⟨.bool !b,by simp[execOp,h,Op.unary],za7 rfl⟩
theorem a_inv{x:Operand}{xt:TypeId}{k:IntKind}{a c:Int}(h:bits .xor k (if k.signed then -1 else k.max) a=c):AOp P ⟨d,.unOp .xor xt x,ty,pos,af,g⟩ [.p (.v (.int k a))] [] [] (.p (.v (.int k c))):=
 zaE fun S m w ev hr=>by
  have h1:=zbb (zco (x:=.p (.v (.int k a))) (u:=ev x) hr);exact⟨.int k c,by subst h;simp[execOp,h1,Op.unary,Op.intBits,bits],za7 rfl⟩
theorem a_neg{x:Operand}{xt:TypeId}{k:IntKind}{a c:Int}(h:k.wrap (0-a)=c):AOp P ⟨d,.unOp .neg xt x,ty,pos,af,g⟩ [.p (.v (.int k a))] [] [] (.p (.v (.int k c))):=
 zaE fun S m w ev hr=>by
  have h1:=zbb (zco (x:=.p (.v (.int k a))) (u:=ev x) hr);exact⟨.int k c,by subst h;simp[execOp,h1,Op.unary,Op.intArith],za7 rfl⟩
theorem zbn{x:Operand}{src dst:TypeId}{k k':IntKind}{a c:Int}{ds:TypeDesc}(hs:P.underlying src=some ds)(hd:P.underlying dst=some (.int k'))(h:k'.wrap a=c):
 AOp P ⟨d,.convert src dst x,ty,pos,af,g⟩ [.p (.v (.int k a))] [] [] (.p (.v (.int k' c))):=
 zaE fun S m w ev hr=>by
  have h1:=zbb (zco (x:=.p (.v (.int k a))) (u:=ev x) hr);exact⟨.int k' c,by subst h;simp[execOp,h1,convert,run_underlying hs,run_underlying hd,Conv.intToInt],za7 rfl⟩
theorem a_pick{c a b:Operand}{t:Bool}{X Y:Value}(h1:X.oneCell'=true)(h2:Y.oneCell'=true):AOp P ⟨d,.pick c a b,ty,pos,af,g⟩ [.p (.v (.bool t)),.p (.v X),.p (.v Y)] [] [] (.p (.v (bif t then X else Y))):=
 zaE fun S m w ev hr=>by
  obtain⟨k1,k2,k3⟩:=ziy (u:=ev c) (v:=ev a) (t:=ev b) hr;refine⟨_,?_,za7 (by cases t<;>assumption)⟩;cases t<;>simp[execOp,zbb k1,zbb k2,zbb k3,asBool]
theorem zki{c a b:Operand}{t t' y:Bool}(ht:t=true→t'=true):AOp P ⟨d,.pick c a b,ty,pos,af,g⟩ [.p (.v (.bool t)),.mb t' (.p (.v (.bool y))),.p (.v (.bool false))] [] [] (.p (.v (.bool (t&&y)))):=
 zaE fun S m w ev hr=>by
  obtain⟨k1,k2,k3⟩:=ziy (u:=ev c) (v:=ev a) (t:=ev b) hr;refine⟨_,?_,za7 rfl⟩;cases t with
  |false=>simp[execOp,zbb k1,zbb k3,asBool]
  |true=>
   simp only[Rep]at k2;have:=k2.1 (ht rfl);simp only[PRep]at this;simp[execOp,zbb k1,this.1,asBool]
theorem a_or{c a b:Operand}{t t' y:Bool}(ht:t=false→t'=true):AOp P ⟨d,.pick c a b,ty,pos,af,g⟩ [.p (.v (.bool t)),.p (.v (.bool true)),.mb t' (.p (.v (.bool y)))] [] [] (.p (.v (.bool (t||y)))):=
 zaE fun S m w ev hr=>by
  obtain⟨k1,k2,k3⟩:=ziy (u:=ev c) (v:=ev a) (t:=ev b) hr;refine⟨_,?_,za7 rfl⟩;cases t with
  |true=>simp[execOp,zbb k1,zbb k2,asBool]
  |false=>
   simp only[Rep]at k3;have:=k3.1 (ht rfl);simp only[PRep]at this;simp[execOp,zbb k1,this.1,asBool]
theorem zdE{x:Operand}{i:Nat}{vs:List AV}{r:AV}(h:vs[i]?=some r):AOp P ⟨d,.extract x i,ty,pos,af,g⟩ [.tup vs] [] [] r:=
 zaE fun S m w ev hr=>by
  have k:=zco (u:=ev x) hr;simp only[Rep]at k;obtain⟨us,h1,h2⟩:=k;obtain⟨u,h3,h4⟩:=h2.at_ h;exact⟨u,by simp[execOp,h1,Instr.extract,h3],h4⟩
theorem zeM{t:TypeId}{ds:TypeDesc}(hu:P.underlying t=some ds)(w:World):(isAgg t).run P w=.ok ds.isRow w:=by
 unfold isAgg;rw[qbw,run_underlying hu w];cases ds<;>rfl
theorem zbr{t:TypeId}{n:Nat}(hi:(P.info? t).map (·.size)=some n)(w:World):(sizeOf t).run P w=.ok n w:=by
 cases hq:P.info? t with
 |none=>simp[hq]at hi
 |some i=>simp[hq]at hi;simp[sizeOf,typeInfo,hq,hi]
theorem part1{t:TypeId}{ds:TypeDesc}(hu:P.underlying t=some ds)(hd:ds.isRow=false){us:List Value}{off:Nat}{u:Value}(h:us[off]?=some u)(w:World):(part t us.toArray off).run P w=.ok u w:=by
 simp[part,zeM hu,hd,h]
theorem partN{t:TypeId}{ds:TypeDesc}(hu:P.underlying t=some ds)(hd:ds.isRow=true){k:Nat}(hi:(P.info? t).map (·.size)=some k){us:List Value}{off:Nat}(w:World):
 (part t us.toArray off).run P w=.ok (.agg ((us.drop off).take k).toArray) w:=by
 simp[part,zeM hu,hd,zbr hi,List.extract_eq_take_drop]
theorem all_sub{us:List Value}{off k:Nat}(h:∀x∈us,x.oneCell'=true):∀x∈(us.drop off).take k,x.oneCell'=true:=
 fun x hx=>h x (qcC (qbI hx))
end
theorem rd1{heap:Nat→Slot}{o:Nat}{s:Slot}(h:∀p∈[(o,s)],heap p.1=p.2):heap o=s:=h (o,s) qG
theorem ORep.range{B:Nat}{S:Nat→Prop}{m:Nat→Option Value}{w:World}{v:Value}{b:Nat}{ty:TypeId}{cs:List AV}(h:ORep B S m w (.box ty cs) v)(hb:blk v=some b):
 ∃us,RepL S m w cs us∧(∀x∈us,x.oneCell'=true)∧w.rangeAt b 0 us∧w.heap[b]?=some (.cells us.toArray ty (0,0)):=by
 obtain⟨b',us,rfl,h1,h2,h3,h4⟩:=h;obtain rfl:b'=b:=qav;exact⟨us,h2,h3,zc6 h4,h4⟩
theorem ORep.rangeR{B:Nat}{S:Nat→Prop}{m:Nat→Option Value}{w:World}{v:Value}{b:Nat}{e:TypeId}{size n:Nat}{cs:List PV}(h:ORep B S m w (.row e size n cs) v)(hb:blk v=some b):
 ∃us,PRepL S w cs us∧w.rangeAt b 0 us∧us.length=n*size:=by
 obtain⟨us,h1,h2⟩:=h;exact⟨us,h1,zcs h2 hb,h2.1⟩
section
variable {P:Program}{d:Option Tmp}{ty:TypeId}{pos:String}{af:Array Edge}{g:Option (Nat×Bool)}
theorem zhk{x:Operand}{t:TypeId}{X:AV}(n:Nat)(hX:X.stor=true):AOp P ⟨d,.box t x,ty,pos,af,g⟩ [X] [(n,.un)] [(n,.live (.box t X.cells))] (.ref n 0):=by
 intro w0 A S m heap w ev hm hR hrd;have hd:heap n=.un:=rd1 hrd;have hx:=zco (u:=ev x) hR;obtain⟨h1,h2⟩:=zc4 hx hX
 have hrun:(execOp ev ⟨d,.box t x,ty,pos,af,g⟩).run P w=.ok (.value (.pointer (some ⟨w.heap.size,0,none⟩))) (w.alloc (.cells (ev x).cells t)):=by
  simp[execOp,Instr.box,newVar,newRow]
 unfold Out;rw[hrun];have hb:Below w.heap.size w (w.alloc (.cells (ev x).cells t)):=(Below.refl _ _).alloc (Nat.le_refl _) _;have hg:=zey hm hb hd (.pointer (some ⟨w.heap.size,0,none⟩))
 obtain⟨k1,k2⟩:=zev hm hb n hd (.pointer (some ⟨w.heap.size,0,none⟩)) (.box t X.cells) (fun b hb=>by simp[blk]at hb;omega)
  ⟨w.heap.size,(ev x).cells.toList,rfl,hm.hB,RepL.mono hg _ _ h1,h2,by simpa using heap_alloc_new w (.cells (ev x).cells t)⟩
 exact jai
theorem zaT{t:TypeId}{z:Value}(n:Nat)(hz:(P.info? t).map (·.zero)=some (some z))(hX:(zcd z).stor=true):
 AOp P ⟨d,.alloc t,ty,pos,af,g⟩ [] [(n,.un)] [(n,.live (.box t (zcd z).cells))] (.ref n 0):=by
 intro w0 A S m heap w ev hm hR hrd;have hd:heap n=.un:=rd1 hrd;obtain⟨h1,h2⟩:=zc4 (zeE S m w z) hX
 have hrun:(execOp ev ⟨d,.alloc t,ty,pos,af,g⟩).run P w=.ok (.value (.pointer (some ⟨w.heap.size,0,none⟩))) (w.alloc (.cells z.cells t)):=by
  cases hq:P.info? t with
  |none=>simp[hq]at hz
  |some i=>
   simp[hq]at hz;simp[execOp,Instr.alloc,zeroValue,typeInfo,hq,hz,newVar,newRow]
 unfold Out;rw[hrun];have hb:Below w.heap.size w (w.alloc (.cells z.cells t)):=(Below.refl _ _).alloc (Nat.le_refl _) _;have hg:=zey hm hb hd (.pointer (some ⟨w.heap.size,0,none⟩))
 obtain⟨k1,k2⟩:=zev hm hb n hd (.pointer (some ⟨w.heap.size,0,none⟩)) (.box t (zcd z).cells) (fun b hb=>by simp[blk]at hb;omega)
  ⟨w.heap.size,z.cells.toList,rfl,hm.hB,RepL.mono hg _ _ h1,h2,by simpa using heap_alloc_new w (.cells z.cells t)⟩
 exact jai
theorem zf8{t:TypeId}{ds:TypeDesc}(hu:P.underlying t=some ds)(hd:ds.isRow=false){w:World}{b off:Nat}{u:Value}(h:w.cell? ⟨b,off,none⟩=some u):
 (Instr.loadAt t (.pointer (some ⟨b,off,none⟩))).run P w=.ok u w:=by
 simp[Instr.loadAt,Instr.sureAddr,loadVar,zeM hu,hd,h]
theorem zcz{x:Operand}{t bt:TypeId}{ds:TypeDesc}{o off:Nat}{cs:List AV}{r:AV}(hu:P.underlying t=some ds)(hd:ds.isRow=false)(h:cs[off]?=some r):
 AOp P ⟨d,.load t x,ty,pos,af,g⟩ [.ref o off] [(o,.live (.box bt cs))] [] r:=
 zbQ fun w0 A S m heap w ev hm hR hrd=>by
  have ho:heap o=.live (.box bt cs):=rd1 hrd;have hx:=zco (u:=ev x) hR;simp only[Rep]at hx;obtain⟨b,v0,h1,h2,h3⟩:=hx;obtain⟨v,k1,k2,_⟩:=hm.live o _ ho;rw[h1]at k1;cases k1;obtain⟨us,j1,_,j3,_⟩:=k2.range h2;obtain⟨u,i1,i2⟩:=j1.at_ h;have hc:=j3 off u i1;rw[qbO]at hc;exact⟨u,by simp[execOp,h3,zf8 hu hd hc],i2⟩
theorem zaQ{x:Operand}{t e:TypeId}{ds:TypeDesc}{o off size n:Nat}{cs:List PV}{r:PV}(hu:P.underlying t=some ds)(hd:ds.isRow=false)(h:cs[off]?=some r):
 AOp P ⟨d,.load t x,ty,pos,af,g⟩ [.ref o off] [(o,.live (.row e size n cs))] [] (.p r):=
 zbQ fun w0 A S m heap w ev hm hR hrd=>by
  have ho:heap o=.live (.row e size n cs):=rd1 hrd;have hx:=zco (u:=ev x) hR;simp only[Rep]at hx;obtain⟨b,v0,h1,h2,h3⟩:=hx;obtain⟨v,k1,k2,_⟩:=hm.live o _ ho;rw[h1]at k1;cases k1;obtain⟨us,j1,j3,_⟩:=k2.rangeR h2;obtain⟨u,i1,i2⟩:=j1.at_ h;have hc:=j3 off u i1;rw[qbO]at hc;exact⟨u,by simp[execOp,h3,zf8 hu hd hc],by simpa only[Rep]using i2⟩
theorem zaz{x:Operand}{t:TypeId}{ds:TypeDesc}{cs:List PV}{r:PV}(hu:P.underlying t=some ds)(hd:ds.isRow=false)(h:cs[0]?=some r):
 AOp P ⟨d,.load t x,ty,pos,af,g⟩ [.ptr cs] [] [] (.p r):=
 zaE fun S m w ev hR=>by
  have hx:=zco (u:=ev x) hR;simp only[Rep]at hx;obtain⟨b,off,vs,h1,_,h3,h4⟩:=hx;obtain⟨u,i1,i2⟩:=h3.at_ h;have hc:=h4 0 u i1;rw[qb4]at hc;exact⟨u,by simp[execOp,h1,zf8 hu hd hc],by simpa only[Rep]using i2⟩
theorem zjA{w:World}{b off k:Nat}{us:List Value}(h:w.rangeAt b 0 us):w.rangeAt b off ((us.drop off).take k):=zgb h
theorem zak{x:Operand}{t bt:TypeId}{ds:TypeDesc}{o off k:Nat}{cs es:List AV}(hu:P.underlying t=some ds)(hd:ds.isRow=true)(hi:(P.info? t).map (·.size)=some k)
 (hk:off+k≤cs.length) (h:(cs.drop off).take k=es):
 AOp P ⟨d,.load t x,ty,pos,af,g⟩ [.ref o off] [(o,.live (.box bt cs))] [] (.agg es):=
 zbQ fun w0 A S m heap w ev hm hR hrd=>by
  have ho:heap o=.live (.box bt cs):=rd1 hrd;have hx:=zco (u:=ev x) hR;simp only[Rep]at hx;obtain⟨b,v0,h1,h2,h3⟩:=hx;obtain⟨v,k1,k2,_⟩:=hm.live o _ ho;rw[h1]at k1;cases k1;obtain⟨us,j1,j2,j3,_⟩:=k2.range h2;have hl:=j1.length;have hrun:=run_loadAt_mid (P:=P) w b off t ((us.drop off).take k) ds (zjA j3) hu hd qan;refine⟨.agg ((us.drop off).take k).toArray,by simp[execOp,h3,hrun],?_⟩;simp only[Rep];exact⟨_,rfl,h▸(j1.drop off).take _,all_sub j2⟩
theorem zb1{x:Operand}{t e:TypeId}{ds:TypeDesc}{o off k size n:Nat}{cs es:List PV}(hu:P.underlying t=some ds)(hd:ds.isRow=true)(hi:(P.info? t).map (·.size)=some k)
 (hk:off+k≤cs.length) (h:(cs.drop off).take k=es):
 AOp P ⟨d,.load t x,ty,pos,af,g⟩ [.ref o off] [(o,.live (.row e size n cs))] [] (.agg (es.map AV.p)):=
 zbQ fun w0 A S m heap w ev hm hR hrd=>by
  have ho:heap o=.live (.row e size n cs):=rd1 hrd;have hx:=zco (u:=ev x) hR;simp only[Rep]at hx;obtain⟨b,v0,h1,h2,h3⟩:=hx;obtain⟨v,k1,k2,_⟩:=hm.live o _ ho;rw[h1]at k1;cases k1;obtain⟨us,j1,j3,_⟩:=k2.rangeR h2;have hl:=j1.length;have hrun:=run_loadAt_mid (P:=P) w b off t ((us.drop off).take k) ds (zjA j3) hu hd qan;refine⟨.agg ((us.drop off).take k).toArray,by simp[execOp,h3,hrun],?_⟩;simp only[Rep]
  exact⟨_,rfl,(h▸(j1.drop off).take _).repL,all_sub j1.one⟩
theorem zay{x:Operand}{t:TypeId}{ds:TypeDesc}{k:Nat}{cs es:List PV}(hu:P.underlying t=some ds)(hd:ds.isRow=true)(hi:(P.info? t).map (·.size)=some k)
 (hk:k≤cs.length) (h:cs.take k=es):
 AOp P ⟨d,.load t x,ty,pos,af,g⟩ [.ptr cs] [] [] (.agg (es.map AV.p)):=
 zaE fun S m w ev hR=>by
  have hx:=zco (u:=ev x) hR;simp only[Rep]at hx;obtain⟨b,off,vs,h1,_,h3,h4⟩:=hx;have hl:=h3.length
  have hr:w.rangeAt b off (vs.take k):=fun j v hj=>by
   rw[qbR]at hj
   split at hj
   ·exact h4 j v hj
   ·cases hj
  have hrun:=run_loadAt_mid (P:=P) w b off t (vs.take k) ds hr hu hd (by rw[hi,List.length_take];congr 1;omega);refine⟨.agg (vs.take k).toArray,by simp[execOp,h1,hrun],?_⟩;simp only[Rep];exact⟨_,rfl,(h▸h3.take _).repL,fun y hy=>h3.one y (qbI hy)⟩
theorem zdV{t:TypeId}{k:Nat}(hi:(P.info? t).map (·.size)=some k){w:World}{b off:Nat}{cur:Array Value}{bt:TypeId}{fz:Nat×Nat}(hg:w.heap[b]?=some (.cells cur bt fz))(hfz:∀i,i<cur.size→¬(fz.1≤i∧i<fz.2))
 {v:Value} (hv:v.cells.toList.length=k) (h1:∀y∈v.cells.toList,y.oneCell'=true) (hk:off+k≤cur.size):
 (Instr.storeAt t (.pointer (some ⟨b,off,none⟩)) v).run P w=.ok () (w.setRow b (setR cur.toList off v.cells.toList).toArray):=by
 have hs:=zch P b off bt fz v.cells.toList 0 cur w hg hfz qp h1;simp only[qb4]at hs;have hsz:v.cells.size=k:=by rw[←hv];simp
 simp only[Instr.storeAt,Instr.sureAddr,storeVar,qbw,qbx,qbr,zbr hi,hsz,ne_eq,not_true_eq_false,if_false,hs,setR,Sem.run_ite]
theorem zbt{x y:Operand}{t bt:TypeId}{o off k:Nat}{cs es:List AV}{Y:AV}(hi:(P.info? t).map (·.size)=some k)(hY:Y.stor=true)(hl:Y.cells.length=k)(hk:off+k≤cs.length)(h:setR cs off Y.cells=es):
 AOp P ⟨d,.store t x y,ty,pos,af,g⟩ [.ref o off,Y] [(o,.live (.box bt cs))] [(o,.live (.box bt es))] .any:=by
 intro w0 A S m heap w ev hm hR hrd;have ho:heap o=.live (.box bt cs):=rd1 hrd;obtain⟨hx,hy⟩:=zb9 (u:=ev x) (v:=ev y) hR;simp only[Rep]at hx;obtain⟨b,v0,h1,h2,h3⟩:=hx;obtain⟨v,k1,k2,k3⟩:=hm.live o _ ho;rw[h1]at k1;cases k1;obtain⟨us,j1,j2,j3,j4⟩:=k2.range h2;obtain⟨c1,c2⟩:=zc4 hy hY;have hl1:=j1.length;have hl2:=c1.length;have hrun:=zdV hi j4 (fun i _ hh=>by simp at hh) (by rw[hl2,hl]) c2 (off:=off) qbg
 have hex:(execOp ev ⟨d,.store t x y,ty,pos,af,g⟩).run P w=.ok .skip (w.setRow b (setR us off (ev y).cells.toList).toArray):=by
  simp only[execOp,h3,qbw,hrun,qbr,qbx]
 unfold Out;rw[hex];have hgr:Grow S m w S m (w.setRow b (setR us off (ev y).cells.toList).toArray):=⟨fun _ h=>h,fun c hS=>setRow_other w b c _ (fun e=>k3 b h2 (e▸hS)),fun _ _ h=>h⟩
 have hone:∀z∈setR us off (ev y).cells.toList,z.oneCell'=true:=by
  intro z hz;simp only[setR,qbD]at hz;rcases hz with(hz|hz)|hz
  ·exact j2 z (qbI hz)
  ·exact c2 z hz
  ·exact j2 z (qcC hz)
 have hv0:∃b',v0=.pointer (some ⟨b',0,none⟩):=by obtain⟨b',_,e,_⟩:=k2;exact⟨b',e⟩
 obtain⟨b',rfl⟩:=hv0;obtain rfl:b'=b:=qa4
 obtain⟨e1,e2⟩:=zgg hm (ob':=.box bt es) (v:=.pointer (some ⟨b',0,none⟩)) (b:=b') (setR us off (ev y).cells.toList).toArray (cur:=us.toArray) (t:=bt) (fz:=(0,0)) ho h1 rfl
  ⟨b',setR us off (ev y).cells.toList,rfl,(k2.lt h2).1,h▸RepL.mono hgr _ _ (j1.setR off c1),hone,setRow_heap w b' _ _ bt (0,0) j4⟩
 exact⟨S,m,by simp only[Rep],e1,e2⟩
theorem zbx{x y:Operand}{t e:TypeId}{o off k size n:Nat}{cs es ys:List PV}{Y:AV}(hi:(P.info? t).map (·.size)=some k)(hY:Y.stor=true)(hys:Y.cells=ys.map AV.p)(hl:ys.length=k)(hk:off+k≤cs.length)(h:setR cs off ys=es):
 AOp P ⟨d,.store t x y,ty,pos,af,g⟩ [.ref o off,Y] [(o,.live (.row e size n cs))] [(o,.live (.row e size n es))] .any:=by
 intro w0 A S m heap w ev hm hR hrd;have ho:heap o=.live (.row e size n cs):=rd1 hrd;obtain⟨hx,hy⟩:=zb9 (u:=ev x) (v:=ev y) hR;simp only[Rep]at hx;obtain⟨b,v0,h1,h2,h3⟩:=hx;obtain⟨v,k1,k2,k3⟩:=hm.live o _ ho;rw[h1]at k1;cases k1;obtain⟨c1,c2⟩:=zc4 hy hY;rw[hys]at c1;have hB:=(k2.lt h2).1;obtain⟨us,j1,j2,j3⟩:=k2;have hl1:=j1.length;have hl2:=c1.length;rcases j3 with⟨rfl,_⟩|⟨b',cap,cur,fz,rfl,g1,g2,g3,g4,g5,g6,g7⟩
 ·simp[blk]at h2
 obtain rfl:b'=b:=qa4;have hsz:us.length≤cur.size:=by rw[←g7];simp;omega
 have hrun:=zdV hi g2 g3.cells (v:=ev y) (by rw[hl2];simpa using hl) c2 (off:=off) qp
 have hex:(execOp ev ⟨d,.store t x y,ty,pos,af,g⟩).run P w=.ok .skip (w.setRow b' (setR cur.toList off (ev y).cells.toList).toArray):=by
  simp only[execOp,h3,qbw,hrun,qbr,qbx]
 unfold Out;rw[hex];have hgr:Grow S m w S m (w.setRow b' (setR cur.toList off (ev y).cells.toList).toArray):=⟨fun _ h=>h,fun c hS=>setRow_other w b' c _ (fun e=>k3 b' h2 (e▸hS)),fun _ _ h=>h⟩;have hlen2:(ev y).cells.toList.length=k:=by rw[hl2];simpa using hl
 have htake:(setR cur.toList off (ev y).cells.toList).take (n*size)=setR us off (ev y).cells.toList:=by
  rw[←j2];have hus:us=cur.toList.take us.length:=by rw[j2];exact g7.symm
  have hu:∀i,us[i]?=if i<us.length then cur.toList[i]? else none:=fun i=>by
   conv=>lhs;rw[hus]
   exact qbR
  unfold setR;apply qcG;intro i;simp only[hu,qbR,List.getElem?_append,qbF,qbm,List.length_take,hlen2,qch];have h8:min off us.length=off:=qp;have h9:min off cur.size=off:=qp;simp only[h8,h9]
  by_cases a1:i<us.length
  ·simp only[a1,if_true]
   by_cases a2:i<off
   ·have a3:i<off+k:=qp;simp[a2,a3]
   ·by_cases a3:i<off+k
    ·simp[a2,a3]
    ·have a5:off+k+(i-(off+k))<us.length:=qp;simp[a3,a5]
  ·simp only[a1,if_false];have a3:¬i<off+k:=qp;have a5:¬off+k+(i-(off+k))<us.length:=qp;simp[a3,a5]
 have hfit:off+(ev y).cells.toList.length≤cur.toList.length:=by rw[hlen2];simp only[qch];omega
 have hfit2:off+(ev y).cells.toList.length≤us.length:=by rw[hlen2];omega
 obtain⟨e1,e2⟩:=zgg hm (ob':=.row e size n es) (v:=.slice (some ⟨b',0,none⟩) n cap) (b:=b') (setR cur.toList off (ev y).cells.toList).toArray (cur:=cur) (t:=e) (fz:=fz) ho h1 rfl
  ⟨setR us off (ev y).cells.toList,h▸PRepL.mono hgr.s hgr.w _ _ (j1.setR off (zcQ c1)),by rw[zbV hfit2];exact j2,.inr ⟨b',cap,_,fz,rfl,g1,setRow_heap w b' _ _ e fz g2,by
   have:(setR cur.toList off (ev y).cells.toList).toArray.size=cur.size:=qau
   rw[this];exact g3,g4,g5,by simp only[qcF];rw[zbV hfit];simpa using g6,by simpa using htake⟩⟩
 exact⟨S,m,by simp only[Rep],e1,e2⟩
end
section
variable {P:Program}{d:Option Tmp}{ty:TypeId}{pos:String}{af:Array Edge}{g:Option (Nat×Bool)}
theorem zhS{s:TypeId}{f:Nat}{fs:Array Field}{off k:Nat}(hu:P.underlying s=some (.struct fs))(hf:(fs[f]?).map (·.offset)=some off)
 (hk:((fs[f]?).bind fun x=>(P.info? x.type).map (·.size))=some (k+1)) {w:World} {b o:Nat}:
 (Instr.fieldAt s (.pointer (some ⟨b,o,none⟩)) f).run P w=.ok (.pointer (some ⟨b,o+off,none⟩)) w:=by
 cases hq:fs[f]? with
 |none=>simp[hq]at hf
 |some z=>
  simp[hq]at hf hk;obtain⟨i,hi1,hi2⟩:=hk;have hs:=zbr (P:=P) (t:=z.type) (n:=k+1) (by rw[hi1];simp[hi2]) w;simp[Instr.fieldAt,Instr.sureAddr,run_underlying hu,hq,fieldPlace,hs,hf,Addr.add_mid]
theorem a_fieldAddr{x:Operand}{s:TypeId}{f:Nat}{fs:Array Field}{off k:Nat}{o p:Nat}(hu:P.underlying s=some (.struct fs))(hf:(fs[f]?).map (·.offset)=some off)
 (hk:((fs[f]?).bind fun x=>(P.info? x.type).map (·.size))=some (k+1)) {q:Nat} (hq:p+off=q):AOp P ⟨d,.fieldAddr s x f,ty,pos,af,g⟩ [.ref o p] [] [] (.ref o q):=
 zaE fun S m w ev hr=>by
  have h:=zco (u:=ev x) hr;simp only[Rep]at h;obtain⟨b,v0,h1,h2,h3⟩:=h;refine⟨.pointer (some ⟨b,q,none⟩),?_,by simp only[Rep];exact⟨b,v0,h1,h2,rfl⟩⟩;simp[execOp,h3,zhS hu hf hk,hq]
theorem a_fieldAddrP{x:Operand}{s:TypeId}{f:Nat}{fs:Array Field}{off k:Nat}{cs ds:List PV}(hu:P.underlying s=some (.struct fs))(hf:(fs[f]?).map (·.offset)=some off)
 (hk:((fs[f]?).bind fun x=>(P.info? x.type).map (·.size))=some (k+1)) (hd:cs.drop off=ds):AOp P ⟨d,.fieldAddr s x f,ty,pos,af,g⟩ [.ptr cs] [] [] (.ptr ds):=
 zaE fun S m w ev hr=>by
  have h:=zco (u:=ev x) hr;simp only[Rep]at h;obtain⟨b,o,vs,h1,h2,h3,h4⟩:=h;refine⟨.pointer (some ⟨b,o+off,none⟩),by simp[execOp,h1,zhS hu hf hk],?_⟩;simp only[Rep];refine⟨b,o+off,vs.drop off,rfl,h2,hd▸h3.drop off,fun j v hj=>?_⟩;rw[qbF]at hj;rw[qc8];exact h4 _ v hj
theorem zep{t e:TypeId}{k:Nat}{kk:IntKind}(hu:P.underlying t=some (.slice e))(hi:(P.info? e).map (·.size)=some k){w:World}{b o n cap:Nat}{i:Int}(h0:0≤i)(h1:i<n):
 (Instr.indexAt t (.slice (some ⟨b,o,none⟩) n cap) (.int kk i)).run P w=.ok (.pointer (some ⟨b,o+i.toNat*k,none⟩)) w:=by
 simp[Instr.indexAt,asIntOf,run_underlying hu,h0,h1,zbr hi,Addr.add_mid]
theorem zaL{x y:Operand}{t e:TypeId}{k:Nat}{kk:IntKind}{i:Int}{n:Nat}{cs ds:List PV}(hu:P.underlying t=some (.slice e))(hi:(P.info? e).map (·.size)=some k)(h0:0≤i)(h1:i<n)
 (hd:cs.drop (i.toNat*k)=ds):AOp P ⟨d,.indexAddr t x y,ty,pos,af,g⟩ [.p (.sl n k cs),.p (.v (.int kk i))] [] [] (.ptr ds):=
 zaE fun S m w ev hr=>by
  obtain⟨hx,hy⟩:=zb9 (u:=ev x) (v:=ev y) hr;simp only[Rep,PRep]at hx;obtain⟨a,cap,vs,h2,h3,h4,h5,h6⟩:=hx;rcases h6 with h6|⟨b,off,rfl,h7,h8⟩
  ·omega
  refine⟨.pointer (some ⟨b,off+i.toNat*k,none⟩),by simp[execOp,h2,zbb hy,zep hu hi h0 h1],?_⟩;simp only[Rep];refine⟨b,off+i.toNat*k,vs.drop (i.toNat*k),rfl,h7,hd▸h5.drop _,fun j v hj=>?_⟩;rw[qbF]at hj;rw[qc8];exact h8 _ v hj
theorem zao{x y:Operand}{t e e':TypeId}{k:Nat}{kk:IntKind}{i:Int}{o n size:Nat}{cs:List PV}(hu:P.underlying t=some (.slice e))(hi:(P.info? e).map (·.size)=some k)(h0:0≤i)(h1:i<n){q:Nat}(hq:i.toNat*k=q):
 AOp P ⟨d,.indexAddr t x y,ty,pos,af,g⟩ [.row o,.p (.v (.int kk i))] [(o,.live (.row e' size n cs))] [] (.ref o q):=
 zbQ fun w0 A S m heap w ev hm hR hrd=>by
  obtain⟨hx,hy⟩:=zb9 (u:=ev x) (v:=ev y) hR;simp only[Rep]at hx;obtain⟨hx,_⟩:=hx;obtain⟨v,k1,k2,_⟩:=hm.live o _ (rd1 hrd);rw[hx]at k1;obtain⟨us,j1,j2,j3⟩:=k2;rcases j3 with⟨rfl,h⟩|⟨b,cap,cur,fz,rfl,_⟩
  ·omega
  have e1:ev x=.slice (some ⟨b,0,none⟩) n cap:=Option.some.inj k1;refine⟨.pointer (some ⟨b,q,none⟩),by simp[execOp,e1,zbb hy,zep hu hi h0 h1,hq],?_⟩;simp only[Rep];exact⟨b,_,hx,by rw[e1];rfl,rfl⟩
theorem a_indexAddrV{x y:Operand}{t e:TypeId}{k:Nat}{kk:IntKind}{i:Int}{o n off size:Nat}(hu:P.underlying t=some (.slice e))(hi:(P.info? e).map (·.size)=some k)(h0:0≤i)(h1:i<n){q:Nat}(hq:off+i.toNat*k=q):
 AOp P ⟨d,.indexAddr t x y,ty,pos,af,g⟩ [.psl o off n size,.p (.v (.int kk i))] [] [] (.ref o q):=
 zaE fun S m w ev hr=>by
  obtain⟨hx,hy⟩:=zb9 (u:=ev x) (v:=ev y) hr;simp only[Rep]at hx;obtain⟨a,cap,h2,h3,h4⟩:=hx;rcases h4 with h4|⟨b,v0,h5,h6,rfl⟩
  ·omega
  refine⟨.pointer (some ⟨b,q,none⟩),by simp[execOp,h2,zbb hy,zep hu hi h0 h1,hq],?_⟩;simp only[Rep];exact⟨b,v0,h5,h6,rfl⟩
theorem zg4{t e:TypeId}{k len:Nat}{kk:IntKind}(hu:P.underlying t=some (.array len e))(hi:(P.info? e).map (·.size)=some k){w:World}{b o:Nat}{i:Int}(h0:0≤i)(h1:i<len):
 (Instr.indexAt t (.pointer (some ⟨b,o,none⟩)) (.int kk i)).run P w=.ok (.pointer (some ⟨b,o+i.toNat*k,none⟩)) w:=by
 simp[Instr.indexAt,Instr.sureAddr,asIntOf,run_underlying hu,h0,h1,zbr hi,Addr.add_mid]
theorem zap{x y:Operand}{t e:TypeId}{k len:Nat}{kk:IntKind}{i:Int}{o p:Nat}(hu:P.underlying t=some (.array len e))(hi:(P.info? e).map (·.size)=some k)(h0:0≤i)(h1:i<len){q:Nat}(hq:p+i.toNat*k=q):
 AOp P ⟨d,.indexAddr t x y,ty,pos,af,g⟩ [.ref o p,.p (.v (.int kk i))] [] [] (.ref o q):=
 zaE fun S m w ev hr=>by
  obtain⟨hx,hy⟩:=zb9 (u:=ev x) (v:=ev y) hr;simp only[Rep]at hx;obtain⟨b,v0,h2,h3,h4⟩:=hx;refine⟨.pointer (some ⟨b,q,none⟩),by simp[execOp,h4,zbb hy,zg4 hu hi h0 h1,hq],?_⟩;simp only[Rep];exact⟨b,v0,h2,h3,rfl⟩
theorem zeJ{x y:Operand}{t e:TypeId}{ds:TypeDesc}{k len:Nat}{kk:IntKind}{i:Int}{cs:List AV}{r:AV}(hu:P.underlying t=some (.array len e))(hi:(P.info? e).map (·.size)=some k)(ht:P.underlying e=some ds)(hd:ds.isRow=false)
 (h0:0≤i) (h1:i<len) (h:cs[i.toNat*k]?=some r):AOp P ⟨d,.index t x y,ty,pos,af,g⟩ [.agg cs,.p (.v (.int kk i))] [] [] r:=
 zaE fun S m w ev hr=>by
  obtain⟨hx,hy⟩:=zb9 (u:=ev x) (v:=ev y) hr;simp only[Rep]at hx;obtain⟨us,h2,h3,h4⟩:=hx;obtain⟨u,h5,h6⟩:=h3.at_ h;exact⟨u,by simp[execOp,h2,zbb hy,Instr.index,asIntOf,run_underlying hu,h0,h1,zbr hi,part1 ht hd h5],h6⟩
theorem a_indexN{x y:Operand}{t e:TypeId}{ds:TypeDesc}{k len:Nat}{kk:IntKind}{i:Int}{cs es:List AV}(hu:P.underlying t=some (.array len e))(hi:(P.info? e).map (·.size)=some k)(ht:P.underlying e=some ds)(hd:ds.isRow=true)
 (h0:0≤i) (h1:i<len) (h:(cs.drop (i.toNat*k)).take k=es):AOp P ⟨d,.index t x y,ty,pos,af,g⟩ [.agg cs,.p (.v (.int kk i))] [] [] (.agg es):=
 zaE fun S m w ev hr=>by
  obtain⟨hx,hy⟩:=zb9 (u:=ev x) (v:=ev y) hr;simp only[Rep]at hx;obtain⟨us,h2,h3,h4⟩:=hx;refine⟨.agg ((us.drop (i.toNat*k)).take k).toArray,by simp[execOp,h2,zbb hy,Instr.index,asIntOf,run_underlying hu,h0,h1,zbr hi,partN ht hd hi],?_⟩;simp only[Rep];exact⟨_,rfl,h▸(h3.drop _).take _,all_sub h4⟩
theorem zbS{x y:Operand}{t:TypeId}{kk:IntKind}{i:Int}{s:ByteArray}{c:Int}(hu:P.underlying t=some .string)(h0:0≤i)(h:(s.data.toList[i.toNat]?).map (fun b:UInt8=>((b.toNat:Nat):Int))=some c):
 AOp P ⟨d,.index t x y,ty,pos,af,g⟩ [.p (.v (.string s)),.p (.v (.int kk i))] [] [] (.p (.v (.int .u8 c))):=
 zaE fun S m w ev hr=>by
  obtain⟨hx,hy⟩:=zb9 (u:=ev x) (v:=ev y) hr;refine⟨.int .u8 c,?_,za7 rfl⟩;cases hq:s.data.toList[i.toNat]? with
  |none=>simp[hq]at h
  |some b=>
   have hb:s[i.toNat]?=some b:=by
    have hlt:i.toNat<s.size:=by
     have:=(qbl.1 hq).1;simpa using this
    have e:s[i.toNat]=b:=by
     have:=(qbl.1 hq).2;rw[←this];rfl
    rw[←e];exact getElem?_pos s i.toNat hlt
   simp[hq]at h;simp[execOp,zbb hx,zbb hy,Instr.index,asIntOf,run_underlying hu,h0,hb,h]
theorem zhC{x:Operand}{t:TypeId}{s:ByteArray}(hu:P.underlying t=some .string):
 AOp P ⟨d,.call {callee:=.builtin .len,args:= #[x],argTypes:= #[t]},ty,pos,af,g⟩ [.p (.v (.string s))] [] [] (.p (.v (.int .i64 s.size))):=
 zaE fun S m w ev hr=>by
  have hx:=zbb (zco (x:=.p (.v (.string s))) (u:=ev x) hr);exact⟨.int .i64 s.size,by simp[execOp,resolve,invoke,builtin,Builtin.len_,hx,run_underlying hu,goInt],za7 rfl⟩
theorem zhR{x:Operand}{t e:TypeId}(hu:P.underlying t=some (.slice e)){ev:Operand→Value}{a:Option Addr}{n c:Nat}(hx:ev x=.slice a n c)(w:World):
 (execOp ev ⟨d,.call {callee:=.builtin .len,args:= #[x],argTypes:= #[t]},ty,pos,af,g⟩).run P w=.ok (.value (.int .i64 n)) w:=by
 simp[execOp,resolve,invoke,builtin,Builtin.len_,hx,run_underlying hu,goInt]
theorem zdd{x:Operand}{t e:TypeId}{n k:Nat}{cs:List PV}(hu:P.underlying t=some (.slice e)):
 AOp P ⟨d,.call {callee:=.builtin .len,args:= #[x],argTypes:= #[t]},ty,pos,af,g⟩ [.p (.sl n k cs)] [] [] (.p (.v (.int .i64 n))):=
 zaE fun S m w ev hr=>by
  have hx:=zco (u:=ev x) hr;simp only[Rep,PRep]at hx;obtain⟨a,cap,vs,h2,_⟩:=hx;exact⟨_,zhR hu h2 w,za7 rfl⟩
theorem zgx{x:Operand}{t e:TypeId}{a:Option Addr}{n c:Nat}(hu:P.underlying t=some (.slice e)):
 AOp P ⟨d,.call {callee:=.builtin .len,args:= #[x],argTypes:= #[t]},ty,pos,af,g⟩ [.p (.v (.slice a n c))] [] [] (.p (.v (.int .i64 n))):=
 zaE fun S m w ev hr=>⟨_,zhR hu (zbb (zco (u:=ev x) hr)) w,za7 rfl⟩
theorem a_lenV{x:Operand}{t e:TypeId}{o off n size:Nat}(hu:P.underlying t=some (.slice e)):
 AOp P ⟨d,.call {callee:=.builtin .len,args:= #[x],argTypes:= #[t]},ty,pos,af,g⟩ [.psl o off n size] [] [] (.p (.v (.int .i64 n))):=
 zaE fun S m w ev hr=>by
  have hx:=zco (u:=ev x) hr;simp only[Rep]at hx;obtain⟨a,cap,h2,_⟩:=hx;exact⟨_,zhR hu h2 w,za7 rfl⟩
theorem a_lenR{x:Operand}{t e e':TypeId}{o n size:Nat}{cs:List PV}(hu:P.underlying t=some (.slice e)):
 AOp P ⟨d,.call {callee:=.builtin .len,args:= #[x],argTypes:= #[t]},ty,pos,af,g⟩ [.row o] [(o,.live (.row e' size n cs))] [] (.p (.v (.int .i64 n))):=
 zbQ fun w0 A S m heap w ev hm hR hrd=>by
  have hx:=zco (u:=ev x) hR;simp only[Rep]at hx;obtain⟨hx,_⟩:=hx;obtain⟨v,k1,k2,_⟩:=hm.live o _ (rd1 hrd);rw[hx]at k1;obtain⟨us,j1,j2,j3⟩:=k2;rcases j3 with⟨rfl,rfl⟩|⟨b,cap,cur,fz,rfl,_⟩
  ·exact⟨_,zhR hu (Option.some.inj k1) w,za7 rfl⟩
  ·exact⟨_,zhR hu (Option.some.inj k1) w,za7 rfl⟩
end
section
variable {P:Program}
def Bnd(v:Option Value)(dflt n:Nat):Prop:=(v=none∧n=dflt)∨∃k i,v=some (.int k i)∧0≤i∧i.toNat=n
theorem ziO{isS:Bool}{len cap l h:Nat}{lo hi:Option Value}(h1:Bnd lo 0 l)(h2:Bnd hi len h)(hlh:l≤h)(hh:h≤cap)(w:World):
 (Instr.sliceBounds isS len cap lo hi none).run P w=.ok (l,h,cap) w:=by
 rcases h1 with⟨rfl,rfl⟩|⟨k,i,rfl,h3,rfl⟩<;>rcases h2 with⟨rfl,rfl⟩|⟨k',j,rfl,h4,rfl⟩
 ·simp[Instr.sliceBounds]
 ·have e:j≤(cap:Int):=qp;simp[Instr.sliceBounds,Instr.sliceBound,asIntOf,h4,e]
 ·have e:i≤(h:Int):=qp;simp[Instr.sliceBounds,Instr.sliceBound,asIntOf,h3,e]
 ·have e:j≤(cap:Int):=qp;have e2:i≤max j 0:=qp;have e3:i≤((j.toNat:Nat):Int):=qp;simp[Instr.sliceBounds,Instr.sliceBound,asIntOf,h3,h4,e];intro hc;omega
theorem zfd{t e:TypeId}{size:Nat}(hu:P.underlying t=some (.slice e))(hi:(P.info? e).map (·.size)=some size){lo hi':Option Value}{a:Option Addr}{len cap l h:Nat}(h1:Bnd lo 0 l)(h2:Bnd hi' len h)(hlh:l≤h)(hh:h≤cap)(w:World):
 (Instr.sliceAt t (.slice a len cap) lo hi' none).run P w=.ok (.slice (if cap=l then a else a.map (·.add (l*size))) (h-l) (cap-l)) w:=by
 have hb:=ziO (P:=P) (isS:=true) h1 h2 hlh hh w;simp[Instr.sliceAt,Instr.slice,run_underlying hu,hb,zbr hi]
theorem run_sliceStr{t:TypeId}(hu:P.underlying t=some .string){lo hi':Option Value}{s:ByteArray}{l h:Nat}(h1:Bnd lo 0 l)(h2:Bnd hi' s.size h)(hlh:l≤h)(hh:h≤s.size)(w:World):
 (Instr.sliceAt t (.string s) lo hi' none).run P w=.ok (.string (s.extract l h)) w:=by
 have hb:=ziO (P:=P) (isS:=false) h1 h2 hlh hh w;simp[Instr.sliceAt,Instr.slice,run_underlying hu,hb]
end
theorem bnd_of{S:Nat→Prop}{m:Nat→Option Value}{w:World}{ev:Operand→Value}{y:Operand}{k:IntKind}{i:Int}{dflt n:Nat}(h:Rep S m w (.p (.v (.int k i))) (ev y))(h0:0≤i)(hn:i.toNat=n):Bnd (some (ev y)) dflt n:=
 .inr ⟨k,i,by rw[zbb h],h0,hn⟩
section
variable {P:Program}{d:Option Tmp}{ty:TypeId}{pos:String}{af:Array Edge}{g:Option (Nat×Bool)}
def SlOps(x:Operand)(lo hi:Option Operand)(X:AV)(L H:Option (IntKind×Int)):List AV:=
 X::((match lo,L with|some _,some (k,i)=>[AV.p (.v (.int k i))]|some _,none=>[.any]|_,_=>[])++(match hi,H with|some _,some (k,i)=>[AV.p (.v (.int k i))]|some _,none=>[.any]|_,_=>[]))
def bOK(lo:Option Operand)(L:Option (IntKind×Int))(dflt n:Nat):Prop:=
 match lo,L with
 |none,none=>n=dflt
 |some _,some (_,i)=>0≤i∧i.toNat=n
 |_,_=>False
theorem zf6{S:Nat→Prop}{m:Nat→Option Value}{w:World}{ev:Operand→Value}{t:TypeId}{x:Operand}{lo hi:Option Operand}{X:AV}{L H:Option (IntKind×Int)}{dl dh l h:Nat}
 (hL:bOK lo L dl l) (hH:bOK hi H dh h) (hr:RepL S m w (SlOps x lo hi X L H) ((Op.slice t x lo hi none).operands.toList.map ev)):Rep S m w X (ev x)∧Bnd (lo.map ev) dl l∧Bnd (hi.map ev) dh h:=by
 cases lo<;>cases hi<;>cases L<;>cases H<;>simp only[bOK]at hL hH
 ·refine⟨zco (u:=ev x) hr,.inl ⟨rfl,hL⟩,.inl ⟨rfl,hH⟩⟩
 ·rename_i y q;obtain⟨h1,h2⟩:=zb9 (u:=ev x) (v:=ev y) hr;exact⟨h1,.inl ⟨rfl,hL⟩,bnd_of h2 hH.1 hH.2⟩
 ·rename_i y q;obtain⟨h1,h2⟩:=zb9 (u:=ev x) (v:=ev y) hr;exact⟨h1,bnd_of h2 hL.1 hL.2,.inl ⟨rfl,hH⟩⟩
 ·rename_i y z q r;obtain⟨h1,h2,h3⟩:=ziy (u:=ev x) (v:=ev y) (t:=ev z) hr;exact⟨h1,bnd_of h2 hL.1 hL.2,bnd_of h3 hH.1 hH.2⟩
theorem zej{t:TypeId}{x:Operand}{lo hi:Option Operand}{L H:Option (IntKind×Int)}{s u:ByteArray}{l h:Nat}(hu:P.underlying t=some .string)(hL:bOK lo L 0 l)(hH:bOK hi H s.size h)(hlh:l≤h)(hh:h≤s.size)(he:s.extract l h=u):
 AOp P ⟨d,.slice t x lo hi none,ty,pos,af,g⟩ (SlOps x lo hi (.p (.v (.string s))) L H) [] [] (.p (.v (.string u))):=
 zaE fun S m w ev hr=>by
  obtain⟨h1,h2,h3⟩:=zf6 (t:=t) hL hH hr;exact⟨_,by simp only[execOp,zbb h1,Option.map_none,qbw,run_sliceStr hu h2 h3 hlh hh,qbr,qbx];rw[he],za7 rfl⟩
theorem zhB{t e:TypeId}{x:Operand}{lo hi:Option Operand}{L H:Option (IntKind×Int)}{n k l h n':Nat}{cs ds:List PV}(hu:P.underlying t=some (.slice e))(hi':(P.info? e).map (·.size)=some k)(hL:bOK lo L 0 l)(hH:bOK hi H n h)(hlh:l≤h)(hh:h≤n)
 (hn:h-l=n') (he:(cs.drop (l*k)).take (n'*k)=ds):
 AOp P ⟨d,.slice t x lo hi none,ty,pos,af,g⟩ (SlOps x lo hi (.p (.sl n k cs)) L H) [] [] (.p (.sl n' k ds)):=
 zaE fun S m w ev hr=>by
  obtain⟨h1,h2,h3⟩:=zf6 (t:=t) hL hH hr;simp only[Rep,PRep]at h1;obtain⟨a,cap,vs,k1,k2,k3,k4,k5⟩:=h1;have hl:=k4.length;subst hn;have hmul:l*k+(h-l)*k≤n*k:=by rw[←qcJ];exact qb8 _ qp
  refine⟨.slice (if cap=l then a else a.map (·.add (l*k))) (h-l) (cap-l),by simp only[execOp,k1,Option.map_none,qbw,zfd hu hi' h2 h3 hlh (show h≤cap by omega),qbr,qbx],?_⟩;simp only[Rep,PRep];refine⟨_,_,(vs.drop (l*k)).take ((h-l)*k),rfl,qp,by rw[←he,List.length_take,qbH];omega,he▸(k4.drop _).take _,?_⟩
  by_cases h0:h-l=0
  ·exact .inl h0
  ·rcases k5 with k5|⟨b,off,rfl,k6,k7⟩
   ·omega
   ·rw[if_neg (by omega)];refine .inr ⟨b,off+l*k,by simp[Addr.add_mid],k6,fun j v hj=>?_⟩;rw[qbR]at hj
    split at hj
    ·rw[qbF]at hj;rw[qc8];exact k7 _ v hj
    ·cases hj
theorem zcY{t e e':TypeId}{x:Operand}{lo hi:Option Operand}{L H:Option (IntKind×Int)}{o n k l h n' q size:Nat}{cs:List PV}(hu:P.underlying t=some (.slice e))(hi':(P.info? e).map (·.size)=some k)(hL:bOK lo L 0 l)(hH:bOK hi H n h)(hlh:l≤h)(hh:h≤n)
 (hn:h-l=n') (hq:l*k=q):
 AOp P ⟨d,.slice t x lo hi none,ty,pos,af,g⟩ (SlOps x lo hi (.row o) L H) [(o,.live (.row e' size n cs))] [] (.psl o q n' k):=
 zbQ fun w0 A S m heap w ev hm hR hrd=>by
  obtain⟨h1,h2,h3⟩:=zf6 (t:=t) hL hH hR;simp only[Rep]at h1;obtain⟨hx,_⟩:=h1;obtain⟨v,k1,k2,_⟩:=hm.live o _ (rd1 hrd);rw[hx]at k1;subst hn;obtain⟨us,j1,j2,j3⟩:=k2;rcases j3 with⟨rfl,rfl⟩|⟨b,cap,cur,fz,rfl,_,_,_,j4,_⟩
  ·have e1:ev x=.slice none 0 0:=Option.some.inj k1;refine⟨.slice (if 0=l then none else(none:Option Addr).map (·.add (l*k))) (h-l) (0-l),by simp only[execOp,e1,Option.map_none,qbw,zfd hu hi' h2 h3 hlh hh,qbr,qbx],?_⟩;simp only[Rep];exact⟨_,_,rfl,qp,.inl qp⟩
  ·have e1:ev x=.slice (some ⟨b,0,none⟩) n cap:=Option.some.inj k1;refine⟨.slice (if cap=l then some ⟨b,0,none⟩else(some (⟨b,0,none⟩:Addr)).map (·.add (l*k))) (h-l) (cap-l),by simp only[execOp,e1,Option.map_none,qbw,zfd hu hi' h2 h3 hlh (show h≤cap by omega),qbr,qbx],?_⟩;simp only[Rep];refine⟨_,_,rfl,qp,?_⟩
   by_cases h0:h-l=0
   ·exact .inl h0
   ·rw[if_neg (by omega)];exact .inr ⟨b,_,hx,by rw[e1];rfl,by simp[Addr.add_mid,hq]⟩
theorem a_sliceV{t e:TypeId}{x:Operand}{lo hi:Option Operand}{L H:Option (IntKind×Int)}{o off n k l h n' q:Nat}(hu:P.underlying t=some (.slice e))(hi':(P.info? e).map (·.size)=some k)(hL:bOK lo L 0 l)(hH:bOK hi H n h)(hlh:l≤h)(hh:h≤n)
 (hn:h-l=n') (hq:off+l*k=q):
 AOp P ⟨d,.slice t x lo hi none,ty,pos,af,g⟩ (SlOps x lo hi (.psl o off n k) L H) [] [] (.psl o q n' k):=
 zaE fun S m w ev hR=>by
  obtain⟨h1,h2,h3⟩:=zf6 (t:=t) hL hH hR;simp only[Rep]at h1;obtain⟨a,cap,k1,k2,k3⟩:=h1;subst hn;refine⟨.slice (if cap=l then a else a.map (·.add (l*k))) (h-l) (cap-l),by simp only[execOp,k1,Option.map_none,qbw,zfd hu hi' h2 h3 hlh (show h≤cap by omega),qbr,qbx],?_⟩;simp only[Rep];refine⟨_,_,rfl,qp,?_⟩
  by_cases h0:h-l=0
  ·exact .inl h0
  ·rcases k3 with k3|⟨b,v0,k4,k5,rfl⟩
   ·omega
   ·rw[if_neg (by omega)];exact .inr ⟨b,v0,k4,k5,by simp[Addr.add_mid,hq]⟩
end
def bs(xs:List Int):List PV:=xs.map fun x=>.v (.int .u8 x)
@[simp] theorem bs_length (xs:List Int):(bs xs).length=xs.length:=by simp[bs]
theorem bs_append(xs ys:List Int):bs (xs++ys)=bs xs++bs ys:=by simp[bs]
theorem bs_rep{S:Nat→Prop}{w:World}:∀{xs:List Int} {us:List Value},PRepL S w (bs xs) us→us=xs.map (Value.int .u8)
 | [],us,h=>by simpa[bs,PRepL]using h
 |x::xs,us,h=>by
  simp only[bs,qbu,PRepL,PRep]at h;obtain⟨u,vs,rfl,⟨rfl,_⟩,h3⟩:=h;rw[bs_rep h3];rfl
theorem bs_mk(S:Nat→Prop)(w:World):∀xs:List Int,PRepL S w (bs xs) (xs.map (Value.int .u8))
 | []=>by simp[bs,PRepL]
 |x::xs=>by
  simp only[bs,qbu,PRepL,PRep];exact⟨_,_,rfl,⟨rfl,rfl⟩,bs_mk S w xs⟩
section
variable {P:Program}(w:World)
theorem run_append_room_fz(t ty e:TypeId)(i:TypeInfo)(ht:P.underlying t=some (.slice e))(hi:P.info? e=some i)
 (g sLen sCap:Nat) (cur:Array Value) (fz:Nat×Nat) (hg:w.heap[g]?=some (.cells cur e fz)) (hfz:∀i,i<cur.size→¬(fz.1≤i∧i<fz.2))
 (a:Addr) (m c:Nat) (news:List Value) (hl:news.length=m*i.size) (hnews:∀j u,news[j]?=some u→w.cell? (a.add j)=some u) (h1:∀u∈news,u.oneCell'=true)
 (hroom:sLen+m≤sCap) (hfit:sLen*i.size+news.length≤cur.size):
 (Builtin.append_ #[t,t] ty #[.slice (some ⟨g,0,none⟩) sLen sCap,.slice (some a) m c]).run P w=
  .ok (.slice (some ⟨g,0,none⟩) (sLen+m) sCap) (w.setRow g (cur.toList.take (sLen*i.size)++news++cur.toList.drop (sLen*i.size+news.length)).toArray):=by
 have hf:=run_firstCells_some (P:=P) w i.size m a m c news hl hnews;have hst:=zch P g (sLen*i.size) e fz news 0 cur w hg hfz (by simpa using hfit) h1;simp only[qb4]at hst;simp[Builtin.append_,run_underlying ht,sizeOf,typeInfo,hi,Builtin.lenOf,hroom,hf,Addr.add_lit,hst]
theorem zeq(base:Nat)(t ty e:TypeId)(i:TypeInfo)(z:Value)(size bytes:Nat)(ht:P.underlying t=some (.slice e))(hi:P.info? e=some i)(hz:i.zero=some z)
 (hsize:i.size=size) (hby:i.bytes=bytes) (hzs:z.cells.size=size)
 (v:Value) (n:Nat) (xs:List Value) (hown:zkj w base e size v n xs)
 (a:Option Addr) (m c:Nat) (news:List Value) (hl:news.length=m*size) (ha:a=none→m=0) (hnews:∀ad,a=some ad→∀j u,news[j]?=some u→w.cell? (ad.add j)=some u) (h1:∀u∈news,u.oneCell'=true)
 (h63:n+m≤maxLen) (hbytes:(n+m)*bytes≤140737488355328) (hbase:base≤w.heap.size):
 ∃v' w',(Builtin.append_ #[t,t] ty #[v,.slice a m c]).run P w=.ok v' w'∧zkj w' base e size v' (n+m) (xs++news)∧w.grownBy w' (blk v)∧(blk v'=blk v∨blk v'=some w.heap.size):=by
 subst hsize;subst hby;have hsmall:n+m≤9223372036854775807:=by simp only[maxLen]at h63;omega
 have hlen:(xs++news).length=(n+m)*i.size:=by rw[qbm,hown.1,hl,qcJ]
 rcases a with _|a
 ·have hm:=ha rfl;subst hm;have hn:news=[]:=qbz qaQ;subst hn;refine⟨v,w,?_,by simpa using hown,⟨rfl,rfl,rfl,Nat.le_refl _,fun _ _ _=>rfl⟩,.inl rfl⟩;rcases hown.2 with⟨rfl,rfl⟩|⟨g,cap,cur,fz,rfl,_,_,_,hnc,_⟩
  ·simp[Builtin.append_,run_underlying ht,sizeOf,typeInfo,hi,Builtin.lenOf,Builtin.firstCells]
  ·simp[Builtin.append_,run_underlying ht,sizeOf,typeInfo,hi,Builtin.lenOf,Builtin.firstCells,hnc,storeCells]
 replace hnews:=hnews a rfl
 have grown:∀(old:Nat),old<n+m→∀(row:Option Nat),
  zkj (w.drew.alloc (.cells (xs.toArray++news.toArray++Builtin.zeroCells z.cells (grownCap w (n+m) old e-(n+m))) e)) base e i.size
   (.slice (some ⟨w.heap.size,0,none⟩) (n+m) (grownCap w (n+m) old e)) (n+m) (xs++news)∧
  w.grownBy (w.drew.alloc (.cells (xs.toArray++news.toArray++Builtin.zeroCells z.cells (grownCap w (n+m) old e-(n+m))) e)) row:=by
  intro old ho row;have hge:=grownCap_ge w (n+m) old e;have hcm:grownCap w (n+m) old e≤maxLen:=grownCap_le_maxLen w (n+m) old e h63;refine⟨⟨hlen,.inr ⟨w.heap.size,_,_,(0,0),rfl,hbase,heap_alloc_new w.drew _,.inl rfl,hge,hcm,?_,?_⟩⟩,⟨rfl,rfl,rfl,qG,fun k hk _=>heap_alloc_old w.drew _ hk⟩⟩
  ·simp only[Array.size_append,qcF,size_zeroCells,hzs,hown.1,hl,←qcJ]
   congr 1
   omega
  ·simp only[Array.toList_append,qby];rw[←qby,←hlen];exact List.take_left
 rcases hown.2 with⟨rfl,rfl⟩|⟨g,cap,cur,fz,rfl,hbg,hg,hfz,hnc,hcm,hcs,htake⟩
 ·have hx:xs=[]:=qbz (by simpa using hown.1);subst hx
  by_cases hm:m=0
  ·subst hm;have hn:news=[]:=qbz qaQ;subst hn;refine⟨.slice none 0 0,w,?_,⟨qG,.inl ⟨rfl,rfl⟩⟩,⟨rfl,rfl,rfl,Nat.le_refl _,fun _ _ _=>rfl⟩,Or.inl rfl⟩;simp[Builtin.append_,run_underlying ht,sizeOf,typeInfo,hi,Builtin.lenOf,Builtin.firstCells,loadCells,loadCellsFrom]
  ·have hr:=run_append_nil (P:=P) w t ty e i z ht hi hz a m c news hl hnews qp qp (by have hb:=hbytes;simp only[qbO]at hb;omega);have hgr:=grown 0 qp (blk (.slice none 0 0));simp only[qbO,qb0,Array.empty_append]at hgr⊢;exact⟨_,_,hr,hgr.1,hgr.2,Or.inr rfl⟩
 ·by_cases hroom:n+m≤cap
  ·have hfit:n*i.size+news.length≤cur.size:=by rw[hl,hcs,←qcJ];exact qb8 _ hroom
   have hr:=run_append_room_fz (P:=P) w t ty e i ht hi g n cap cur fz hg hfz.cells a m c news hl hnews h1 hroom hfit
   have hsz:(cur.toList.take (n*i.size)++news++cur.toList.drop (n*i.size+news.length)).toArray.size=cur.size:=by
    simp only[qcF,qbm,List.length_take,qbH,qch];omega
   refine⟨_,_,hr,⟨hlen,.inr ⟨g,cap,_,fz,rfl,hbg,setRow_heap w g cur _ e _ hg,by rw[hsz];exact hfz,hroom,hcm,by rw[hsz];exact hcs,?_⟩⟩,⟨rfl,rfl,rfl,qG,fun k _ hk=>setRow_other w g k _ (fun e=>hk (by simp[blk,e]))⟩,Or.inl rfl⟩;rw[htake,←hlen];exact List.take_left
  ·have holds:∀j u,xs[j]?=some u→w.cell? ((⟨g,0,none⟩:Addr).add j)=some u:=fun j u hj=>by
    rw[Addr.add_mid];exact zcs hown rfl j u hj
   have hr:=run_append_grow (P:=P) w t ty e i z ht hi hz ⟨g,0,none⟩ n cap xs hown.1 holds a m c news hl hnews qp qp (growslice_fits qp hbytes);have hgr:=grown cap qp (blk (.slice (some ⟨g,0,none⟩) n cap));exact⟨_,_,hr,hgr.1,hgr.2,Or.inr rfl⟩
end
def Src(rds:List (Nat×Slot))(x:AV)(m size:Nat)(cs:List PV):Prop:=
 ∀(w0:World) (A S:Nat→Prop) (mm:Nat→Option Value) (heap:Nat→Slot) (w:World) (u:Value),Mem w0 A S mm heap w→(∀p∈rds,heap p.1=p.2)→Rep S mm w x u→
  ∃a c vs,u=.slice a m c∧PRepL S w cs vs∧vs.length=m*size∧(a=none→m=0)∧(∀ad,a=some ad→∀j v,vs[j]?=some v→w.cell? (ad.add j)=some v)
theorem zbc{m size:Nat}{cs:List PV}:Src [] (.p (.sl m size cs)) m size cs:=by
 intro w0 A S mm heap w u hm _ hr;simp only[Rep,PRep]at hr;obtain⟨a,cap,vs,h1,h2,h3,h4,h5⟩:=hr;have hl:=h4.length;refine⟨a,cap,vs,h1,h4,by rw[hl,h3],fun ha=>?_,fun ad ha j v hj=>?_⟩
 ·rcases h5 with h5|⟨b,off,h6,_⟩
  ·exact h5
  ·rw[ha]at h6;cases h6
 ·rcases h5 with h5|⟨b,off,h6,h7,h8⟩
  ·subst h5;have:vs=[]:=qbz (by rw[hl,h3];simp);rw[this]at hj;simp at hj
  ·rw[ha]at h6;cases h6;rw[Addr.add_mid];exact h8 j v hj
theorem zjp{size:Nat}:Src [] (.p (.v (.slice none 0 0))) 0 size []:=by
 intro w0 A S mm heap w u hm _ hr;have:=zbb hr;subst this;exact⟨none,0,[],rfl,by simp[PRepL],qG,fun _=>rfl,fun ad h=>by cases h⟩
theorem zas{o:Nat}{e:TypeId}{size n:Nat}{cs:List PV}:Src [(o,.live (.row e size n cs))] (.row o) n size cs:=by
 intro w0 A S mm heap w u hm hrd hr;simp only[Rep]at hr;obtain⟨hx,_⟩:=hr;obtain⟨v,k1,k2,_⟩:=hm.live o _ (rd1 hrd);rw[hx]at k1;cases k1;obtain⟨us,j1,j2⟩:=k2;have hr2:=fun b hb=>zcs j2 (b:=b) hb
 rcases j2.2 with⟨rfl,rfl⟩|⟨g,cap,cur,fz,rfl,_⟩
 ·exact⟨none,0,us,rfl,j1,j2.1,fun _=>rfl,fun ad h=>by cases h⟩
 ·exact⟨some ⟨g,0,none⟩,cap,us,rfl,j1,j2.1,fun h=>(by cases h),fun ad h j v hj=>by cases h;rw[Addr.add_mid];exact hr2 g rfl j v hj⟩
theorem zdU{o off m:Nat}{e:TypeId}{size n size':Nat}{cs ds:List PV}(hk:off+m*size≤cs.length)(hd:(cs.drop off).take (m*size)=ds):Src [(o,.live (.row e size' n cs))] (.psl o off m size) m size ds:=by
 intro w0 A S mm heap w u hm hrd hr;simp only[Rep]at hr;obtain⟨a,cap,rfl,h2,h3⟩:=hr;obtain⟨v,k1,k2,_⟩:=hm.live o _ (rd1 hrd);obtain⟨us,j1,j2⟩:=k2;have hl:=j1.length;have hr2:=fun b hb=>zcs j2 (b:=b) hb
 have hlen:((us.drop off).take (m*size)).length=m*size:=qal;refine⟨a,cap,(us.drop off).take (m*size),rfl,hd▸(j1.drop off).take _,hlen,fun ha=>?_,fun ad ha j x hj=>?_⟩
 ·rcases h3 with h3|⟨b,v0,_,_,h6⟩
  ·exact h3
  ·rw[ha]at h6;cases h6
 ·rcases h3 with h3|⟨b,v0,h4,h5,h6⟩
  ·exact jak
  ·rw[ha]at h6;cases h6;rw[k1]at h4;cases h4;rw[Addr.add_mid];exact zgb (hr2 b h5) j x hj
theorem zjq{o off m:Nat}{bt:TypeId}{size:Nat}{cs:List AV}{ds:List PV}(hp:cs.all AV.isP=true)(hk:off+m*size≤cs.length)(hd:((cs.map AV.toP).drop off).take (m*size)=ds):Src [(o,.live (.box bt cs))] (.psl o off m size) m size ds:=by
 intro w0 A S mm heap w u hm hrd hr;simp only[Rep]at hr;obtain⟨a,cap,rfl,h2,h3⟩:=hr;obtain⟨v,k1,k2,_⟩:=hm.live o _ (rd1 hrd);obtain⟨b0,us,rfl,_,j1,_,j3⟩:=k2;rw[←zjM hp]at j1;have j1':=zcQ j1;have hl:=j1'.length;rw[List.length_map]at hl;have hlen:((us.drop off).take (m*size)).length=m*size:=qal;refine⟨a,cap,(us.drop off).take (m*size),rfl,hd▸(j1'.drop off).take _,hlen,fun ha=>?_,fun ad ha j x hj=>?_⟩
 ·rcases h3 with h3|⟨b,v0,_,_,h6⟩
  ·exact h3
  ·rw[ha]at h6;cases h6
 ·rcases h3 with h3|⟨b,v0,h4,h5,h6⟩
  ·exact jak
  ·rw[ha]at h6;cases h6;rw[k1]at h4;cases h4;obtain rfl:b0=b:=by simpa[blk]using h5
   rw[Addr.add_mid];exact zgb (zc6 j3) j x hj
section
variable {P:Program}{d:Option Tmp}{ty:TypeId}{pos:String}{af:Array Edge}{g:Option (Nat×Bool)}
def zcO(P:Program)(e:TypeId)(size bytes:Nat):Bool:=
 match P.info? e with
 |some i=>i.size==size&&i.bytes==bytes&&(match i.zero with|some z=>z.cells.size==size|none=>false)
 |none=>false
theorem zeD{e:TypeId}{size bytes:Nat}(h:zcO P e size bytes=true):∃i z,P.info? e=some i∧i.zero=some z∧i.size=size∧i.bytes=bytes∧z.cells.size=size:=by
 unfold zcO at h;cases hi:P.info? e with
 |none=>simp[hi]at h
 |some i=>
  simp only[hi,qbB,beq_iff_eq]at h;cases hz:i.zero with
  |none=>simp[hz]at h
  |some z=>simp[hz]at h;exact⟨i,z,rfl,hz,h.1.1,h.1.2,h.2⟩
theorem zam{s x:Operand}{t e:TypeId}{size bytes:Nat}(d':Nat){o n m:Nat}{cs ys zs:List PV}{X:AV}{rds:List (Nat×Slot)}(hu:P.underlying t=some (.slice e))(he:zcO P e size bytes=true)(hs:Src rds X m size ys)
 (hb1:n+m≤maxLen) (hb2:(n+m)*bytes≤140737488355328) {k:Nat} (hk:n+m=k) (hz:cs++ys=zs):
 AOp P ⟨d,.call {callee:=.builtin .append,args:= #[s,x],argTypes:= #[t,t]},ty,pos,af,g⟩ [.row o,X] ((o,.live (.row e size n cs))::(d',.un)::rds) [(d',.live (.row e size k zs)),(o,.dead)] (.row d'):=by
 intro w0 A S mm heap w ev hm hR hrd;have ho:heap o=.live (.row e size n cs):=hrd (o,_) qG;have hd':heap d'=.un:=hrd (d',_) qG;obtain⟨hx,hy⟩:=zb9 (u:=ev s) (v:=ev x) hR;obtain⟨a,c,vs,e1,e2,e3,e4,e5⟩:=hs w0 A S mm heap w _ hm (fun p hp=>hrd p qbf) hy;simp only[Rep]at hx;obtain⟨hx,_⟩:=hx;obtain⟨v,k1,k2,k3⟩:=hm.live o _ ho;rw[hx]at k1;have k1:=Option.some.inj k1;obtain⟨us,j1,j2⟩:=k2;obtain⟨i,z,i1,i2,i3,i4,i5⟩:=zeD he
 obtain⟨v',w',hrun,hrow,hg,hblk⟩:=zeq (P:=P) w w0.heap.size t ty e i z size bytes hu i1 i2 i3 i4 i5 v n us j2 a m c vs e3 e4 e5 e2.one hb1 hb2 hm.hB;unfold Out
 have hex:(execOp ev ⟨d,.call {callee:=.builtin .append,args:= #[s,x],argTypes:= #[t,t]},ty,pos,af,g⟩).run P w=.ok (.value v') w':=by
  simp only[execOp,resolve,invoke,builtin,qbw,qbx,qbr,List.map_toArray,qbu,List.map_nil,k1,e1,hrun]
 rw[hex];have hmd:=hm.un d' hd';have hbb:∀b,blk v=some b→¬S b:=k3
 have hgr:Grow S mm w S (setM mm d' v') w':=⟨fun _ h=>h,fun b hS=>hg.block b (hm.sW b hS) (fun e=>hbb b e.symm hS),fun o' u hu=>by
  have hne:o'≠d':=fun e=>by rw[e,hmd]at hu;cases hu
  simpa[setM,hne]using hu⟩
 subst hk;subst hz
 obtain⟨f1,f2⟩:=mem_append hm (o:=o) (d:=d') (v:=v) (v':=v') (ob':=.row e size (n+m) (cs++ys)) ho hd' (by rw[hx,k1]) hg hblk
  ⟨us++vs,PRepL.mono hgr.s hgr.w _ _ (j1.append e2),hrow⟩
 exact jae
theorem zaP{s x:Operand}{t e:TypeId}{size bytes:Nat}(d':Nat){m:Nat}{ys:List PV}{X:AV}{rds:List (Nat×Slot)}(hu:P.underlying t=some (.slice e))(he:zcO P e size bytes=true)(hs:Src rds X m size ys)
 (hb1:m≤maxLen) (hb2:m*bytes≤140737488355328):
 AOp P ⟨d,.call {callee:=.builtin .append,args:= #[s,x],argTypes:= #[t,t]},ty,pos,af,g⟩ [.p (.v (.slice none 0 0)),X] ((d',.un)::rds) [(d',.live (.row e size m ys))] (.row d'):=by
 intro w0 A S mm heap w ev hm hR hrd;have hd':heap d'=.un:=hrd (d',_) qG;obtain⟨hx,hy⟩:=zb9 (u:=ev s) (v:=ev x) hR;obtain⟨a,c,vs,e1,e2,e3,e4,e5⟩:=hs w0 A S mm heap w _ hm (fun p hp=>hrd p qbf) hy;have hx:=zbb hx;obtain⟨i,z,i1,i2,i3,i4,i5⟩:=zeD he;obtain⟨v',w',hrun,hrow,hg,hblk⟩:=zeq (P:=P) w w.heap.size t ty e i z size bytes hu i1 i2 i3 i4 i5 (.slice none 0 0) 0 [] ⟨qG,.inl ⟨rfl,rfl⟩⟩ a m c vs e3 e4 e5 e2.one (by simpa using hb1) (by simpa using hb2) (Nat.le_refl _)
 unfold Out
 have hex:(execOp ev ⟨d,.call {callee:=.builtin .append,args:= #[s,x],argTypes:= #[t,t]},ty,pos,af,g⟩).run P w=.ok (.value v') w':=by
  simp only[execOp,resolve,invoke,builtin,qbw,qbx,qbr,List.map_toArray,qbu,List.map_nil,hx,e1,hrun]
 rw[hex];have hb:Below w.heap.size w w':=⟨hg.os,hg.tape,hg.output,hg.size,fun k hk=>hg.block k hk (by simp[blk])⟩;have hgr:=zey hm hb hd' v';simp only[qbO,qb0]at hrow
 have hrow':zkj w' w0.heap.size e size v' m vs:=by
  refine⟨hrow.1,?_⟩;rcases hrow.2 with h|⟨g',cap,cur,fz,h1,h2,h3⟩
  ·exact .inl h
  ·exact .inr ⟨g',cap,cur,fz,h1,qc5 hm.hB h2,h3⟩
 obtain⟨f1,f2⟩:=zev hm hb d' hd' v' (.row e size m ys) (fun b hb'=>by
  rcases hblk with h|h
  ·rw[h]at hb';simp[blk]at hb'
  ·rw[h]at hb';cases hb';exact Nat.le_refl _) ⟨vs,PRepL.mono hgr.s hgr.w _ _ e2,hrow'⟩
 exact jae
end
def sb(s:ByteArray):List Int:=s.data.toList.map fun c=>((c.toNat:Nat):Int)
theorem zdt(s:ByteArray):(sb s).length=s.size:=by simp[sb]
section
variable {P:Program}{d:Option Tmp}{ty:TypeId}{pos:String}{af:Array Edge}{g:Option (Nat×Bool)}
theorem make_new{x y:Operand}{t e:TypeId}{size bytes:Nat}(d':Nat){kl kc:IntKind}{l c:Int}{n:Nat}{cs:List PV}(hu:P.underlying t=some (.slice e))(he:zcO P e size bytes=true)(h0:0≤l)(hlc:l≤c)(hbytes:(bytes:Int)*c≤281474976710656)(hc:c≤maxLen)(hn:l.toNat=n)
 (hcs:∀z,(P.info? e).map (·.zero)=some (some z)→∃us,cs.length=us.length∧(∀S w,PRepL S w cs us)∧us.length=n*size∧(madeCells z.cells (c.toNat*size)).toList.take (n*size)=us):
 AOp P ⟨d,.makeSlice t x y,ty,pos,af,g⟩ [.p (.v (.int kl l)),.p (.v (.int kc c))] [(d',.un)] [(d',.live (.row e size n cs))] (.row d'):=by
 intro w0 A S mm heap w ev hm hR hrd;have hd':heap d'=.un:=rd1 hrd;obtain⟨hx,hy⟩:=zb9 (u:=ev x) (v:=ev y) hR;obtain⟨i,z,i1,i2,i3,i4,i5⟩:=zeD he;have hml:maxLen≤9223372036854775807:=by simp[maxLen]
 have hrun:=run_make (P:=P) w t e i z hu i1 i2 kl kc l c h0 hlc (by rw[i4];exact hbytes) qp;obtain⟨us,u1,u2,u3,u4⟩:=hcs z (by rw[i1];simp[i2]);unfold Out
 have hex:(execOp ev ⟨d,.makeSlice t x y,ty,pos,af,g⟩).run P w=.ok (.value (.slice (some ⟨w.heap.size,0,none⟩) l.toNat c.toNat)) (w.alloc (.cells (madeCells z.cells (c.toNat*i.size)) e)):=by
  simp only[execOp,zbb hx,zbb hy,qbw,hrun,qbr,qbx]
 rw[hex];have hb:Below w.heap.size w (w.alloc (.cells (madeCells z.cells (c.toNat*i.size)) e)):=(Below.refl _ _).alloc (Nat.le_refl _) _;subst hn
 obtain⟨f1,f2⟩:=zev hm hb d' hd' (.slice (some ⟨w.heap.size,0,none⟩) l.toNat c.toNat) (.row e size l.toNat cs) (fun b hb=>by simp[blk]at hb;omega)
  ⟨us,u2 _ _,u3,.inr ⟨w.heap.size,c.toNat,_,(0,0),rfl,hm.hB,heap_alloc_new w _,.inl rfl,qp,qp,by rw[size_madeCells,i3],by rw[i3];exact u4⟩⟩
 exact jac
theorem zdD{x y:Operand}{t e:TypeId}{size bytes:Nat}(d':Nat){kl kc:IntKind}{c:Int}(hu:P.underlying t=some (.slice e))(he:zcO P e size bytes=true)(h0:0≤c)(hbytes:(bytes:Int)*c≤281474976710656)(hc:c≤maxLen):
 AOp P ⟨d,.makeSlice t x y,ty,pos,af,g⟩ [.p (.v (.int kl 0)),.p (.v (.int kc c))] [(d',.un)] [(d',.live (.row e size 0 []))] (.row d'):=
 make_new d' hu he qp h0 hbytes hc rfl fun z _=>⟨[],rfl,fun _ _=>by simp[PRepL],qG,qG⟩
theorem zfW{x y:Operand}{t e:TypeId}{bytes:Nat}(d':Nat){kl kc:IntKind}{l c:Int}{n:Nat}{z:Value}(hu:P.underlying t=some (.slice e))(he:zcO P e 1 bytes=true)(hz:(P.info? e).map (·.zero)=some (some z))(hz1:z.oneCell'=true)
 (h0:0≤l) (hlc:l≤c) (hbytes:(bytes:Int)*c≤281474976710656) (hc:c≤maxLen) (hn:l.toNat=n):
 AOp P ⟨d,.makeSlice t x y,ty,pos,af,g⟩ [.p (.v (.int kl l)),.p (.v (.int kc c))] [(d',.un)] [(d',.live (.row e 1 n (List.replicate n (.v z))))] (.row d'):=
 make_new d' hu he h0 hlc hbytes hc hn fun z' hz'=>by
  rw[hz]at hz';have:z=z':=by simpa using hz'
  subst this;refine⟨List.replicate n z,qG,fun S w=>?_,qG,?_⟩
  ·generalize n=k
   induction k with
   |zero=>simp[PRepL]
   |succ k ih=>simp only[List.replicate_succ,PRepL,PRep];exact⟨z,_,rfl,⟨rfl,hz1⟩,ih⟩
  ·rw[cells_one hz1,qbU,toList_madeCells_one,List.take_replicate,qbU]
   congr 1
   omega
theorem zfr{x:Operand}{src dst e:TypeId}{ds:TypeDesc}(d':Nat){s:ByteArray}{n:Nat}{xs:List Int}(hs:P.underlying src=some ds)(hd:P.underlying dst=some (.slice e))(he:P.underlying e=some (.int .u8))(hl:s.size≤maxLen)(hn:s.size=n)(hx:sb s=xs):
 AOp P ⟨d,.convert src dst x,ty,pos,af,g⟩ [.p (.v (.string s))] [(d',.un)] [(d',.live (.row e 1 n (bs xs)))] (.row d'):=by
 intro w0 A S mm heap w ev hm hR hrd;have hd':heap d'=.un:=rd1 hrd;have h1:=zbb (zco (x:=.p (.v (.string s))) (u:=ev x) hR);have hrun:=Lib.run_convert_string_bytes (P:=P) w src dst e s hs hd he;unfold Out
 have hex:(execOp ev ⟨d,.convert src dst x,ty,pos,af,g⟩).run P w=.ok (.value (.slice (some ⟨w.heap.size,0,none⟩) s.size (grownCap w s.size 0 e))) (Lib.bytesWorld w e s):=by
  simp only[execOp,h1,qbw,hrun,qbr,qbx]
 rw[hex];have hsz:=Lib.bytesWorld_size w e s;have hb:Below w.heap.size w (Lib.bytesWorld w e s):=⟨rfl,rfl,rfl,qp,fun k hk=>Lib.bytesWorld_at_old w e s k hk⟩;have hge:=grownCap_ge w s.size 0 e;have hcm:=grownCap_le_maxLen w s.size 0 e hl;have hcur:(Lib.bytesCells w e s).size=grownCap w s.size 0 e:=by simp[Lib.bytesCells];omega
 subst hn;subst hx
 obtain⟨f1,f2⟩:=zev hm hb d' hd' (.slice (some ⟨w.heap.size,0,none⟩) s.size (grownCap w s.size 0 e)) (.row e 1 s.size (bs (sb s))) (fun b hb=>by simp[blk]at hb;omega)
  ⟨(sb s).map (Value.int .u8),bs_mk _ _ _,by simp[zdt],.inr ⟨w.heap.size,_,_,_,rfl,hm.hB,Lib.bytesWorld_at_new w e s,.inr (Nat.le_refl _),hge,hcm,by rw[hcur,qbU],by
   rw[qbU];have h2:(s.data.map fun b=>Value.int .u8 b.toNat).toList.length=s.size:=qG;rw[Lib.bytesCells,Array.toList_append,←h2,List.take_left]
   simp[sb]⟩⟩
 exact jac
theorem zdF{x:Operand}{src dst e:TypeId}{X:AV}{rds:List (Nat×Slot)}{n:Nat}{cs:List PV}{xs:List Int}{u:ByteArray}(hs:P.underlying src=some (.slice e))(he:P.underlying e=some (.int .u8))(hd:P.underlying dst=some .string)
 (hsrc:Src rds X n 1 cs) (hc:cs=bs xs) (hu:strOfNums xs=u):
 AOp P ⟨d,.convert src dst x,ty,pos,af,g⟩ [X] rds [] (.p (.v (.string u))):=
 zbQ fun w0 A S m heap w ev hm hR hrd=>by
  obtain⟨a,c,vs,e1,e2,e3,e4,e5⟩:=hsrc w0 A S m heap w _ hm hrd (zco (u:=ev x) hR);subst hc;have e6:=bs_rep e2;subst e6;refine⟨.string u,?_,za7 rfl⟩;have hl:xs.length=n:=by simpa using e3
  rcases a with _|a
  ·have h0:=e4 rfl;subst h0;have:xs=[]:=qbz hl;subst this;simp only[execOp,e1,qbw,run_convert_bytes_nil w src e hs he 0 c dst hd,qbr,qbx];rw[←hu];rfl
  ·have hload:(loadCells a n).run P w=.ok (xs.map (Value.int .u8)).toArray w:=by
    have:=run_loadCells_list (P:=P) w a (xs.map (Value.int .u8)) (e5 a rfl);simpa[hl]using this
   have hrun:(convert src dst (.slice (some a) n c)).run P w=.ok (.string (strOfNums xs)) w:=by
    rw[run_convert_bytes_string w src dst e _ n c hs he hd,run_bytesToString w a n c xs hload,foldl_push_bytes];simp[strOfNums,ByteArray.empty,ByteArray.emptyWithCapacity];rfl
   simp only[execOp,e1,qbw,hrun,qbr,qbx];rw[hu]
def zgU(place:Nat→Option (Nat×Nat)):List AV→List (Nat×AV)→Option (List AV)
 |cells,[]=>some cells
 |cells,(i,x)::rest=>match place i with
  |none=>none
  |some (off,size)=>if x.cells.length=size∧off+size≤cells.length∧x.stor=true then zgU place (setR cells off x.cells) rest else none
theorem zi6:∀(vs:List Value) (cs:Array Value) (off k:Nat),off+k+vs.length≤cs.size→
 ((vs.zipIdx k).foldl (fun cs (c,j)=>cs.setIfInBounds (off+j) c) cs).toList=setR cs.toList (off+k) vs
 | [],cs,off,k,_=>by simp[setR]
 |v::vs,cs,off,k,h=>by
  rw[List.zipIdx_cons,List.foldl_cons,zi6 vs _ off (k+1) (by simp at h⊢;omega)];unfold setR;have e:=list_seg_step cs.toList (off+k) v vs (by simp at h⊢;omega);simp only[Array.toList_setIfInBounds];rw[show off+(k+1)=off+k+1 by omega];exact e
theorem zgr{S:Nat→Prop}{m:Nat→Option Value}{w:World}{place:Nat→Option (Nat×Nat)}:∀{parts:List (Nat×AV)} {vals:List (Nat×Value)} {cells es:List AV} {us:Array Value},
 RepL S m w cells us.toList→(∀x∈us.toList,x.oneCell'=true)→RepL S m w (parts.map Prod.snd) (vals.map Prod.snd)→parts.map Prod.fst=vals.map Prod.fst→zgU place cells parts=some es→
  ∃us',Instr.fill place us vals=some us'∧RepL S m w es us'.toList∧∀x∈us'.toList,x.oneCell'=true
 | [],vals,cells,es,us,h1,h2,h3,h4,h5=>by
  have:vals=[]:=by cases vals with|nil=>rfl|cons a b=>simp at h4
  subst this;simp only[zgU,Option.some.injEq]at h5;subst h5;exact⟨us,rfl,h1,h2⟩
 |(i,x)::parts,vals,cells,es,us,h1,h2,h3,h4,h5=>by
  cases vals with
  |nil=>simp at h4
  |cons a vals=>
   obtain⟨i',v⟩:=a;simp only[qbu,List.cons.injEq]at h4;obtain⟨rfl,h4⟩:=h4;simp only[qbu,RepL]at h3;obtain⟨u,us2,h6,h7,h8⟩:=h3;simp only[List.cons.injEq]at h6;obtain⟨rfl,rfl⟩:=h6;simp only[zgU]at h5;cases hp:place i with
   |none=>simp[hp]at h5
   |some os=>
    obtain⟨off,size⟩:=os;simp only[hp]at h5
    split at h5
    ·rename_i hc;obtain⟨c1,c2,c3⟩:=hc;obtain⟨k1,k2⟩:=zc4 h7 c3;have hl:=k1.length;have hlu:=h1.length;have hvs:v.cells.size=size:=by rw[←c1,←hl];simp
     have hus:us.size=cells.length:=by rw[←hlu];simp
     have hcell:(v.cells.zipIdx.foldl (fun cs (c,j)=>cs.setIfInBounds (off+j) c) us).toList=setR us.toList off v.cells.toList:=by
      rw[←Array.foldl_toList,Array.toList_zipIdx];have:=zi6 v.cells.toList us off 0 qbg;simpa using this
     have hone:∀y∈setR us.toList off v.cells.toList,y.oneCell'=true:=by
      intro z hz;simp only[setR,qbD]at hz;rcases hz with(hz|hz)|hz
      ·exact h2 z (qbI hz)
      ·exact k2 z hz
      ·exact h2 z (qcC hz)
     obtain⟨us',e1,e2,e3⟩:=zgr (place:=place) (parts:=parts) (vals:=vals) (cells:=setR cells off x.cells) (es:=es) (us:=v.cells.zipIdx.foldl (fun cs (c,j)=>cs.setIfInBounds (off+j) c) us)
      (by rw[hcell];exact h1.setR off k1) (by rw[hcell];exact hone) h8 h4 h5
     refine⟨us',?_,e2,e3⟩;simp only[Instr.fill,hp,hvs];rw[if_neg (by simp;omega)];exact e1
    ·cases h5
theorem zeR{S:Nat→Prop}{m:Nat→Option Value}{w:World}{ev:Operand→Value}:∀{parts:List (Nat×Operand)} {xs:List AV},RepL S m w xs ((parts.map Prod.snd).map ev)→
 RepL S m w (((parts.map Prod.fst).zip xs).map Prod.snd) ((parts.map fun p=>(p.1,ev p.2)).map Prod.snd)∧((parts.map Prod.fst).zip xs).map Prod.fst=(parts.map fun p=>(p.1,ev p.2)).map Prod.fst
 | [],xs,h=>by simp[RepL]
 |p::parts,xs,h=>by
  cases xs with
  |nil=>simp[RepL]at h
  |cons x xs=>
   simp only[qbu,RepL]at h;obtain⟨u,us,h1,h2,h3⟩:=h;simp only[List.cons.injEq]at h1;obtain⟨rfl,rfl⟩:=h1;obtain⟨k1,k2⟩:=zeR (parts:=parts) h3;simp only[qbu,List.zip_cons_cons,RepL];exact⟨⟨_,_,rfl,h2,k1⟩,by rw[k2]⟩
theorem a_build{t:TypeId}{parts:Array (Nat×Operand)}{z:Value}{fs:Array Field}{places:Array (Nat×Nat)}{xs es:List AV}(hu:P.underlying t=some (.struct fs))(hz:(P.info? t).map (·.zero)=some (some z))(hz1:(zcd z).stor=true)
 (hp:∀w,(fs.mapM (fun f=>do pure (f.offset,←sizeOf f.type)):Sem (Array (Nat×Nat))).run P w=.ok places w) (hf:zgU (places[·]?) (zcd z).cells ((parts.toList.map Prod.fst).zip xs)=some es):
 AOp P ⟨d,.build t parts,ty,pos,af,g⟩ xs [] [] (.agg es):=
 zaE fun S m w ev hr=>by
  have hr':RepL S m w xs ((parts.toList.map Prod.snd).map ev):=qa1;obtain⟨k1,k2⟩:=zeR hr';obtain⟨c1,c2⟩:=zc4 (zeE S m w z) hz1;obtain⟨us',e1,e2,e3⟩:=zgr (us:=z.cells) c1 c2 k1 k2 hf;refine⟨.agg us',?_,by simp only[Rep];exact⟨us'.toList,qG,e2,e3⟩⟩;cases hq:P.info? t with
  |none=>simp[hq]at hz
  |some i=>
   simp[hq]at hz;have e1':Instr.fill (fun x=>places[x]?) z.cells (List.map (fun p=>(p.fst,ev p.snd)) parts.toList)=some us':=e1;simp only[execOp,Instr.build,zeroValue,typeInfo,qbw,run_program,qbr,hq,qbx,hz,run_underlying hu,hp w,qcz];simp only[e1',qbx,qbr]
theorem zdn{t e:TypeId}{n k:Nat}{parts:Array (Nat×Operand)}{z:Value}{xs es:List AV}(hu:P.underlying t=some (.array n e))(hz:(P.info? t).map (·.zero)=some (some z))(hz1:(zcd z).stor=true)(hi:(P.info? e).map (·.size)=some k)
 (hf:zgU (fun i=>some (i*k,k)) (zcd z).cells ((parts.toList.map Prod.fst).zip xs)=some es):
 AOp P ⟨d,.build t parts,ty,pos,af,g⟩ xs [] [] (.agg es):=
 zaE fun S m w ev hr=>by
  have hr':RepL S m w xs ((parts.toList.map Prod.snd).map ev):=qa1;obtain⟨k1,k2⟩:=zeR hr';obtain⟨c1,c2⟩:=zc4 (zeE S m w z) hz1;obtain⟨us',e1,e2,e3⟩:=zgr (us:=z.cells) c1 c2 k1 k2 hf;refine⟨.agg us',?_,by simp only[Rep];exact⟨us'.toList,qG,e2,e3⟩⟩;cases hq:P.info? t with
  |none=>simp[hq]at hz
  |some i=>
   simp[hq]at hz;have e1':Instr.fill (fun i=>some (i*k,k)) z.cells (List.map (fun p=>(p.fst,ev p.snd)) parts.toList)=some us':=e1;simp only[execOp,Instr.build,zeroValue,typeInfo,qbw,run_program,qbr,hq,qbx,hz,run_underlying hu,zbr hi,qcz];simp only[e1',qbx,qbr]
theorem zae{t e:TypeId}{len size:Nat}(d':Nat){parts:Array (Nat×Operand)}{z0:Array Value}{xs es:List AV}{cs:List PV}(hu:P.underlying t=some (.slice e))(hi:(P.info? e).map (·.size)=some size)(hz:(P.info? e).map (fun i=>i.zero.map Value.cells)=some (some z0))
 (hl:len*size≤2^24) (hl0:0<len*size) (h1:z0.toList.all (fun x=>x.oneCell')=true)
 (hf:zgU (fun i=>some (i*size,size)) (((List.range (len*size)).map fun i=>(AV.p (.v (z0.getD (i%z0.size) default))))) ((parts.toList.map Prod.fst).zip xs)=some es) (hes:es.all AV.isP=true) (hcs:es.map AV.toP=cs) (hzs:0<z0.size):
 AOp P ⟨d,.buildSlice t len parts,ty,pos,af,g⟩ xs [(d',.un)] [(d',.live (.row e size len cs))] (.row d'):=by
 intro w0 A S mm heap w ev hm hR hrd;have hd':heap d'=.un:=rd1 hrd;have hr':RepL S mm w xs ((parts.toList.map Prod.snd).map ev):=by simpa[Op.operands]using hR
 obtain⟨k1,k2⟩:=zeR hr';have h1':∀x∈z0.toList,x.oneCell'=true:=by simpa only[qbX]using h1
 have hget:∀i,(z0[i%z0.size]!).oneCell'=true∧z0[i%z0.size]! =z0.getD (i%z0.size) default:=fun i=>by
  have hlt:=Nat.mod_lt i hzs;rw[getElem!_pos z0 _ hlt];refine⟨h1' _ qG,?_⟩;simp[qcm,hlt]
 have c1:RepL S mm w ((List.range (len*size)).map fun i=>(AV.p (.v (z0.getD (i%z0.size) default)))) ((Array.range (len*size)).map (z0[· %z0.size]!)).toList:=by
  have:((Array.range (len*size)).map (z0[· %z0.size]!)).toList=(List.range (len*size)).map (fun i=>z0[i%z0.size]!):=by simp[Array.toList_range]
  rw[this];generalize List.range (len*size)=l
  induction l with
  |nil=>simp[RepL]
  |cons i l ih=>
   simp only[qbu,RepL,Rep,PRep];exact⟨_,_,rfl,⟨(hget i).2,(hget i).2▸(hget i).1⟩,ih⟩
 have c2:∀x∈((Array.range (len*size)).map (z0[· %z0.size]!)).toList,x.oneCell'=true:=by
  intro x hx;simp only[qcz,qbv]at hx;obtain⟨i,_,rfl⟩:=hx;exact(hget i).1
 obtain⟨us',e1,e2,e3⟩:=zgr c1 c2 k1 k2 hf
 have hlen:us'.size=len*size:=by
  have:∀{place:Nat→Option (Nat×Nat)} {cells es:List AV} {ps:List (Nat×AV)},zgU place cells ps=some es→es.length=cells.length:=by
   intro place cells es ps
   induction ps generalizing cells with
   |nil=>intro h;simp only[zgU,Option.some.injEq]at h;rw[h]
   |cons p ps ih=>
    obtain⟨i,x⟩:=p;intro h;simp only[zgU]at h;cases hp:place i with
    |none=>simp[hp]at h
    |some os=>
     obtain⟨off,sz⟩:=os;simp only[hp]at h
     split at h
     ·rename_i hc;rw[ih h,zbV (by omega)]
     ·cases h
  have:=this hf;have h3:=e2.length;simp at this h3;omega
 have hex:(execOp ev ⟨d,.buildSlice t len parts,ty,pos,af,g⟩).run P w=.ok (.value (.slice (some ⟨w.heap.size,0,none⟩) len len)) (w.alloc (.cells us' e)):=by
  cases hq:P.info? e with
  |none=>simp[hq]at hi
  |some i=>
   simp[hq]at hi hz;obtain⟨z,hz1,hz2⟩:=hz;have e1':Instr.fill (fun i=>some (i*size,size)) ((Array.range (len*size)).map (z0[· %z0.size]!)) (List.map (fun p=>(p.fst,ev p.snd)) parts.toList)=some us':=e1;have hlim:¬(len*size>2^24):=qp;have h0:¬(len*size=0):=qp;simp only[execOp,Instr.buildSlice,qbw,run_underlying hu,qbr,zbr (P:=P) (t:=e) (n:=size) (by rw[hq];simp[hi]),hlim,if_false,h0,zeroValue,typeInfo,run_program,hq,hz1,qbx,qcz,Sem.run_ite,hz2]
   simp only[e1',newRow,qbw,run_newObj,qbr,qbx];rfl
 unfold Out;rw[hex];have hb:Below w.heap.size w (w.alloc (.cells us' e)):=(Below.refl _ _).alloc (Nat.le_refl _) _;have hgr:=zey hm hb hd' (.slice (some ⟨w.heap.size,0,none⟩) len len)
 have hmax:len≤maxLen:=by
  have hsz:1≤size:=by
   rcases Nat.eq_zero_or_pos size with h|h
   ·subst h;simp at hl0
   ·exact h
  have:len*1≤len*size:=Nat.mul_le_mul_left _ hsz;simp only[maxLen];omega
 rw[←zjM hes,hcs]at e2;have e2':=zcQ e2
 obtain⟨f1,f2⟩:=zev hm hb d' hd' (.slice (some ⟨w.heap.size,0,none⟩) len len) (.row e size len cs) (fun b hb=>by simp[blk]at hb;omega)
  ⟨us'.toList,PRepL.mono hgr.s hgr.w _ _ e2',by simp[hlen],.inr ⟨w.heap.size,len,us',(0,0),rfl,hm.hB,heap_alloc_new w _,.inl rfl,Nat.le_refl _,hmax,hlen,qbC (by rw[qch,hlen];exact Nat.le_refl _)⟩⟩
 exact jac
end
def PV.isV:PV→Bool
 | .v _=>true
 | .sl .. =>false
 | .pt _=>false
mutual
def AV.noSl:AV→Bool
 | .p x=>x.isV
 | .agg cs=>AV.noSlL cs
 | .tup cs=>AV.noSlL cs
 | .ptr _=>false
 | .ref .. =>true
 | .row _=>true
 | .psl .. =>true
 | .pslc .. =>true
 | .fn _ cs=>AV.noSlL cs
 | .mb _ x=>x.noSl
 | .sat sp=>true
 | .mp _=>true
 | .any=>true
def AV.noSlL:List AV→Bool
 | []=>true
 |c::cs=>c.noSl&&AV.noSlL cs
end
def AObj.noSl:AObj→Bool
 | .box _ cs=>AV.noSlL cs
 | .row _ _ _ cs=>cs.all PV.isV
 | .map _=>true
 | .rowA _ _ _ _ cs=>AV.noSlL cs
theorem zaF(xs:List Int):(bs xs).all PV.isV=true:=by simp[bs,PV.isV]
section
variable {S T:Nat→Prop}{m:Nat→Option Value}{w:World}
theorem PRepL.noSl:∀{cs:List PV} {us:List Value},cs.all PV.isV=true→PRepL S w cs us→PRepL T w cs us
 | [],us,_,h=>by simpa only[PRepL]using h
 |c::cs,us,hn,h=>by
  simp only[List.all_cons,qbB]at hn;simp only[PRepL]at h⊢;obtain⟨u,us,h1,h2,h3⟩:=h;refine⟨u,us,h1,?_,h3.noSl hn.2⟩;cases c with
  |v x=>simpa only[PRep]using h2
  |sl n size cs=>simp[PV.isV]at hn
  |pt cs=>simp[PV.isV]at hn
mutual
theorem Rep.noSl:∀(x:AV) (u:Value),x.noSl=true→Rep S m w x u→Rep T m w x u
 | .p x,u,hn,h=>by
  simp only[Rep]at h⊢;cases x with
  |v x=>simpa only[PRep]using h
  |sl n size cs=>simp[AV.noSl,PV.isV]at hn
  |pt cs=>simp[AV.noSl,PV.isV]at hn
 | .agg cs,u,hn,h=>by
  simp only[Rep]at h⊢;obtain⟨us,h1,h2,h3⟩:=h;exact⟨us,h1,RepL.noSl cs us qaK h2,h3⟩
 | .tup cs,u,hn,h=>by
  simp only[Rep]at h⊢;obtain⟨us,h1,h2⟩:=h;exact⟨us,h1,RepL.noSl cs us qaK h2⟩
 | .ptr cs,u,hn,h=>by simp[AV.noSl]at hn
 | .ref o off,u,hn,h=>by simpa only[Rep]using h
 | .row o,u,hn,h=>by simpa only[Rep]using h
 | .psl o off n size,u,hn,h=>by simpa only[Rep]using h
 | .pslc o n,u,hn,h=>by simpa only[Rep]using h
 | .fn f cs,u,hn,h=>by
  simp only[Rep]at h⊢;obtain⟨us,h1,h2⟩:=h;exact⟨us,h1,RepL.noSl cs us qaK h2⟩
 | .mb b x,u,hn,h=>by
  simp only[Rep]at h⊢;exact⟨fun hb=>Rep.noSl x u qaK (h.1 hb),h.2⟩
 | .sat sp,u,hn,h=>by simpa only[Rep]using h
 | .mp o,u,hn,h=>by simpa only[Rep]using h
 | .any,u,hn,h=>by simp only[Rep]
theorem RepL.noSl:∀(x:List AV) (u:List Value),AV.noSlL x=true→RepL S m w x u→RepL T m w x u
 | [],u,hn,h=>by simpa only[RepL]using h
 |c::cs,u,hn,h=>by
  simp only[AV.noSlL,qbB]at hn;simp only[RepL]at h⊢;obtain⟨u,us,h1,h2,h3⟩:=h;exact⟨u,us,h1,Rep.noSl c u hn.1 h2,RepL.noSl cs us hn.2 h3⟩
end
theorem ORep.noSl{B:Nat}{ob:AObj}{v:Value}(hn:ob.noSl=true)(h:ORep B S m w ob v):ORep B T m w ob v:=by
 cases ob with
 |box ty cs=>
  obtain⟨b,us,h1,h2,h3,h4,h5⟩:=h;exact⟨b,us,h1,h2,RepL.noSl cs us hn h3,h4,h5⟩
 |row e size n cs=>
  obtain⟨us,h1,h2⟩:=h;exact⟨us,h1.noSl hn,h2⟩
 |map es=>exact h
 |rowA e size n c cs=>
  obtain⟨us,h1,h2⟩:=h;exact⟨us,RepL.noSl cs us hn h1,h2⟩
end
def findN(ρ:Nat→Nat):List (Nat×AObj)→Nat→Option Nat
 | [],_=>none
 |(n,_)::l,o=>if ρ n=o then some n else findN ρ l o
theorem zi8{ρ:Nat→Nat}:∀{l:List (Nat×AObj)} {o n:Nat},findN ρ l o=some n→ρ n=o∧n∈l.map Prod.fst
 | [],o,n,h=>by cases h
 |(k,_)::l,o,n,h=>by
  simp only[findN]at h
  split at h
  ·rename_i hk;cases h;exact⟨hk,qG⟩
  ·obtain⟨h1,h2⟩:=zi8 h;exact⟨h1,by simp only[qbu,qbA];exact .inr h2⟩
theorem findN_of{ρ:Nat→Nat}:∀{l:List (Nat×AObj)} {n:Nat},n∈l.map Prod.fst→(∀k∈l.map Prod.fst,ρ k=ρ n→k=n)→findN ρ l (ρ n)=some n
 | [],n,h,_=>by simp at h
 |(k,_)::l,n,h,hi=>by
  simp only[findN]
  by_cases hk:ρ k=ρ n
  ·rw[if_pos hk,hi k (by simp) hk]
  ·rw[if_neg hk];simp only[qbu,qbA]at h;exact findN_of (h.resolve_left fun e=>hk (by rw[e])) fun k' hk' e=>hi k' (by simp only[qbu,qbA];exact .inr hk') e
def zb4(ρ:Nat→Nat)(news:List (Nat×AObj)):List (Nat×Slot):=news.map fun p=>(ρ p.1,.live (p.2.ren ρ))
theorem zdZ{ρ:Nat→Nat}{heap:Nat→Slot}:∀{news:List (Nat×AObj)} {o:Nat},(updL heap (zb4 ρ news) o=heap o∧∀k∈news.map Prod.fst,ρ k≠o)∨∃p∈news,ρ p.1=o∧updL heap (zb4 ρ news) o=.live (p.2.ren ρ)
 | [],o=>.inl ⟨rfl,qG⟩
 |(n,ob)::l,o=>by
  by_cases h:ρ n=o
  ·subst h;exact .inr ⟨(n,ob),qG,rfl,by simp[zb4,updL]⟩
  ·have hb:Nat.beq o (ρ n)=false:=nbeq (Ne.symm h);have e:updL heap (zb4 ρ ((n,ob)::l)) o=updL heap (zb4 ρ l) o:=by simp only[zb4,qbu,updL,hb,cond_false]
   rw[e];rcases zdZ (ρ:=ρ) (heap:=heap) (news:=l) (o:=o)with⟨h1,h2⟩|⟨p,h1,h2,h3⟩
   ·refine .inl ⟨h1,fun k hk=>?_⟩;simp only[qbu,qbA]at hk;rcases hk with rfl|hk
    ·exact h
    ·exact h2 k hk
   ·exact .inr ⟨p,by simp[h1],h2,h3⟩
theorem zhU{w0:World}{A A' S S2:Nat→Prop}{m:Nat→Option Value}{heap:Nat→Slot}{w w':World}{S':Nat→Prop}{m':Nat→Option Value}{res:AV}{news:List (Nat×AObj)}{v:Value}(ρ:Nat→Nat)
 (hm:Mem w0 A S m heap w) (hk:Mem w A' S' m' (zcT news) w') (hres:Rep S2 m' w' res v) (hobj:∀o ob u,zcT news o=.live ob→ORep w.heap.size S' m' w' ob u→ORep w.heap.size S2 m' w' ob u)
 (h1:∀b,S b→S2 b) (h2:∀b,S2 b→S b∨(S' b∧w.heap.size≤b)) (hun:∀k∈news.map Prod.fst,heap (ρ k)=.un) (hnd:zbL (news.map Prod.fst)=true) (hinj:zbL (news.map fun p=>ρ p.1)=true) (hok:res.okIn (news.map Prod.fst)=true):
 ∃m2,Rep S2 m2 w' (res.ren ρ) v∧Mem w0 A S2 m2 (updL heap (zb4 ρ news)) w'∧Grow S m w S2 m2 w':=by
 have hi:∀p∈news,∀q∈news,ρ p.1=ρ q.1→p.1=q.1:=zfj hinj
 have hi':∀k∈news.map Prod.fst,∀k'∈news.map Prod.fst,ρ k=ρ k'→k=k':=by
  intro k hk k' hk' e;obtain⟨p,hp,rfl⟩:=qbv.1 hk;obtain⟨q,hq,rfl⟩:=qbv.1 hk';exact hi p hp q hq e
 have hlook:∀p∈news,zcT news p.1=.live p.2:=by
  have:∀l:List (Nat×AObj),zbL (l.map Prod.fst)=true→∀p∈l,zcT l p.1=.live p.2:=by
   intro l
   induction l with
   |nil=>intro _ p hp;cases hp
   |cons q l ih=>
    intro hd p hp;simp only[qbu,zbL,qbB,qcR,List.elem_eq_mem,decide_eq_false_iff_not]at hd;rcases qbA.1 hp with rfl|hp
    ·simp[zcT]
    ·have hne:p.1≠q.1:=fun e=>hd.1 (e▸qbv.2 ⟨p,hp,rfl⟩)
     simp only[zcT,nbeq hne,cond_false];exact ih hd.2 p hp
  exact this news hnd
 let m2:Nat→Option Value:=fun o=>match findN ρ news o with|some n=>m' n|none=>m o
 have hB:=hm.hB;have hBw:=hk.bel.size
 have e1:∀k∈news.map Prod.fst,m2 (ρ k)=m' k:=fun k hk'=>by
  have:=findN_of (ρ:=ρ) hk' fun j hj e=>hi' j hj k hk' e
  simp only[m2,this]
 have e2:∀o,(∀k∈news.map Prod.fst,ρ k≠o)→m2 o=m o:=fun o ho=>by
  cases hf:findN ρ news o with
  |none=>simp only[m2,hf]
  |some n=>obtain⟨g1,g2⟩:=zi8 hf;exact absurd g1 (ho n g2)
 have hren:∀o u,m' o=some u→m2 (ρ o)=some u:=fun o u ho=>by
  have:o∈news.map Prod.fst:=by
   cases hl:zcT news o with
   |un=>rw[hk.un o hl]at ho;cases ho
   |dead=>
    exfalso
    have:∀l:List (Nat×AObj),zcT l o≠.dead:=by
     intro l
     induction l with
     |nil=>intro h;cases h
     |cons q l ih=>
      intro h
      by_cases e:o=q.1
      ·subst e;simp[zcT]at h
      ·simp only[zcT,nbeq e,cond_false]at h;exact ih h
    exact this _ hl
   |live ob=>exact qbv.2 ⟨_,zck hl,rfl⟩
  rw[e1 o this];exact ho
 have g:Grow S m w S2 m2 w':=⟨h1,fun b hb=>hk.bel.block b (hm.sW b hb),fun o u ho=>by
  rw[e2 o fun k hk' e=>by
   have:=hm.un _ (hun k hk')
   rw[e,ho]at this;cases this]
  exact ho⟩
 have hold:∀o ob u,heap o=.live ob→m o=some u→∀b,blk u=some b→b<w.heap.size:=fun o ob u a1 a2 b a3=>by
  obtain⟨v',k1,k2,_⟩:=hm.live o ob a1;rw[a2]at k1;cases k1;exact(k2.lt a3).2
 have hnew:∀p∈news,∃u,m' p.1=some u∧ORep w.heap.size S' m' w' p.2 u∧(∀b,blk u=some b→¬S' b)∧∀b,blk u=some b→w.heap.size≤b:=fun p hp=>by
  obtain⟨u,k1,k2,k3⟩:=hk.live _ _ (hlook p hp);exact⟨u,k1,k2,k3,fun b hb=>(k2.lt hb).1⟩
 refine⟨m2,Rep.ren hren _ _ hres,⟨hm.bel.trans (hk.bel.mono hB),fun b hb=>?_,fun b hb=>?_,fun o ho=>?_,fun o ob ho=>?_,fun o o' ob ob' u u' b ho ho' hu hu' hb hb'=>?_,hm.gl⟩,g⟩
 ·rcases h2 b hb with h|⟨_,h⟩
  ·exact hm.sA b h
  ·exact .inr qp
 ·rcases h2 b hb with h|⟨h,_⟩
  ·have:=hm.sW b h;omega
  ·exact hk.sW b h
 ·rcases zdZ (ρ:=ρ) (heap:=heap) (news:=news) (o:=o)with⟨a1,a2⟩|⟨p,_,_,a3⟩
  ·rw[a1]at ho;rw[e2 o a2];exact hm.un o ho
  ·rw[a3]at ho;cases ho
 ·rcases zdZ (ρ:=ρ) (heap:=heap) (news:=news) (o:=o)with⟨a1,a2⟩|⟨p,a1,rfl,a3⟩
  ·rw[a1]at ho;obtain⟨u,k1,k2,k3⟩:=hm.live o ob ho;refine⟨u,by rw[e2 o a2];exact k1,k2.mono g fun b hb=>hk.bel.block b (k2.lt hb).2,fun b hb hS=>?_⟩;rcases h2 b hS with h|⟨_,h⟩
   ·exact k3 b hb h
   ·have:=(k2.lt hb).2;omega
  ·rw[a3]at ho;simp only[Slot.live.injEq]at ho;obtain⟨u,k1,k2,k3,k4⟩:=hnew p a1;refine⟨u,by rw[e1 _ (qbv.2 ⟨p,a1,rfl⟩)];exact k1,?_,fun b hb hS=>?_⟩
   ·have k5:=hobj _ _ u (hlook p a1) k2;rw[←ho];cases hp2:p.2 with
    |box ty cs=>
     rw[hp2]at k5;obtain⟨b,us,g1,g2,g3,g4,g5⟩:=k5;exact⟨b,us,g1,qp,RepL.ren hren _ _ g3,g4,g5⟩
    |row e size n cs=>
     rw[hp2]at k5;obtain⟨us,g1,g2,g3⟩:=k5;refine⟨us,g1,g2,?_⟩;exact jal
    |map es=>
     rw[hp2]at k5;obtain⟨r,arr,ck,g1,g2,g3⟩:=k5;exact⟨r,arr,ck,g1,qp,g3⟩
    |rowA e size n c cs=>
     rw[hp2]at k5;obtain⟨us,g1,⟨g2,g3⟩,g4⟩:=k5;refine⟨us,RepL.ren hren _ _ g1,⟨g2,?_⟩,g4⟩;exact jal
   ·rcases h2 b hS with h|⟨h,_⟩
    ·have:=hm.sW b h;have:=k4 b hb;omega
    ·exact k3 b hb h
 ·rcases zdZ (ρ:=ρ) (heap:=heap) (news:=news) (o:=o)with⟨a1,a2⟩|⟨p,a1,rfl,a3⟩<;>rcases zdZ (ρ:=ρ) (heap:=heap) (news:=news) (o:=o')with⟨b1,b2⟩|⟨q,b1,rfl,b3⟩
  ·rw[a1]at ho;rw[b1]at ho';rw[e2 o a2]at hu;rw[e2 o' b2]at hu';exact hm.inj _ _ _ _ _ _ _ ho ho' hu hu' hb hb'
  ·exfalso
   rw[a1]at ho;rw[e2 o a2]at hu;rw[e1 _ (qbv.2 ⟨q,b1,rfl⟩)]at hu';obtain⟨u2,k1,_,_,k4⟩:=hnew q b1;rw[hu']at k1;cases k1;have:=hold o ob u ho hu b hb;have:=k4 b hb';omega
  ·exfalso
   rw[b1]at ho';rw[e2 o' b2]at hu';rw[e1 _ (qbv.2 ⟨p,a1,rfl⟩)]at hu;obtain⟨u2,k1,_,_,k4⟩:=hnew p a1;rw[hu]at k1;cases k1;have:=hold o' ob' u' ho' hu' b hb';have:=k4 b hb;omega
  ·rw[e1 _ (qbv.2 ⟨p,a1,rfl⟩)]at hu;rw[e1 _ (qbv.2 ⟨q,b1,rfl⟩)]at hu';have:=hk.inj _ _ _ _ _ _ _ (hlook p a1) (hlook q b1) hu hu' hb hb';rw[this]
mutual
def AV.objs:AV→List Nat
 | .agg cs=>AV.objsL cs
 | .tup cs=>AV.objsL cs
 | .row o=>[o]
 | .psl o _ _ _=>[o]
 | .pslc o _=>[o]
 | .fn _ cs=>AV.objsL cs
 |_=>[]
def AV.objsL:List AV→List Nat
 | []=>[]
 |c::cs=>c.objs++AV.objsL cs
end
mutual
theorem view_objs{keep:Nat→Bool}{h h':Nat→Slot}:∀x:AV,(∀o∈x.objs,h o=h' o)→x.view keep h=x.view keep h'
 | .p x,_=>rfl
 | .agg cs,e=>by simp only[AV.view];rw[zdo cs _ fun o ho=>e o (by simpa only[AV.objs]using ho)]
 | .tup cs,e=>by simp only[AV.view];rw[zdo cs _ fun o ho=>e o (by simpa only[AV.objs]using ho)]
 | .ptr cs,_=>rfl
 | .ref o off,_=>rfl
 | .row o,e=>by simp only[AV.view];rw[e o (by simp[AV.objs])]
 | .psl o off n size,e=>by simp only[AV.view];rw[e o (by simp[AV.objs])]
 | .pslc o n,_=>rfl
 | .fn f cs,e=>by simp only[AV.view];rw[zdo cs _ fun o ho=>e o (by simpa only[AV.objs]using ho)]
 | .mb b x,_=>rfl
 | .sat sp,_=>rfl
 | .mp o,e=>rfl
 | .any,_=>rfl
theorem zdo{keep:Nat→Bool}{h:Nat→Slot}:∀(x:List AV) (h':Nat→Slot),(∀o∈AV.objsL x,h o=h' o)→AV.viewL keep h x=AV.viewL keep h' x
 | [],_,_=>rfl
 |c::cs,h',e=>by
  simp only[AV.viewL];rw[view_objs c fun o ho=>e o (by simp[AV.objsL,ho]),zdo cs h' fun o ho=>e o (by simp[AV.objsL,ho])]
end
def zcC(rds:List (Nat×Slot))(o:Nat):Slot:=updL (fun _=>.un) rds o
theorem zfD{heap:Nat→Slot}:∀{rds:List (Nat×Slot)} {o:Nat},(∀p∈rds,heap p.1=p.2)→zcC rds o=.un∨zcC rds o=heap o
 | [],o,_=>.inl rfl
 |(n,s)::l,o,h=>by
  by_cases e:o=n
  ·subst e;exact .inr (by simp only[zcC,updL,qcq,cond_true];exact(h (o,s) qG).symm)
  ·simp only[zcC,updL,nbeq e,cond_false];exact zfD fun p hp=>h p qbf
theorem zhp{P:Program}{d:Option Tmp}{ty:TypeId}{pos:String}{af:Array Edge}{g:Option (Nat×Bool)}{x:Operand}{args:Array Operand}{ts:Array TypeId}{f:FuncId}{fn:Func}(hf:P.funcs[f]?=some fn)(hb:fn.body.isNone=false)
 (hn:(fn.name== "runtime.NumGoroutine")=false) {ev:Operand→Value} {cs:Array Value} (hx:ev x=.func (.func f) #[] cs) (w:World):
 (execOp ev ⟨d,.call {callee:=.value x,args:=args,argTypes:=ts},ty,pos,af,g⟩).run P w=.ok (.enter f (args.map ev++cs)) w:=by
 simp only[execOp,resolve,hx,Deferred.ofValue,invoke,callFunc,qbw,qbx,qbr,run_program,hf,hn,hb,qbJ,if_false];simp
section
variable {P:Program}{d:Option Tmp}{ty:TypeId}{pos:String}{af:Array Edge}{g:Option (Nat×Bool)}{x:Operand}{args:Array Operand}{ts:Array TypeId}{f:FuncId}{fn:Func}
theorem zjZ{S:Nat→Prop}{m:Nat→Option Value}{w:World}{ev:Operand→Value}{cs xs:List AV}(h:RepL S m w (.fn f cs::xs) ((Op.call {callee:=.value x,args:=args,argTypes:=ts}).operands.toList.map ev)):
 ∃us,ev x=.func (.func f) #[] us.toArray∧RepL S m w (xs++cs) ((args.map ev).toList++us):=by
 have h':RepL S m w (.fn f cs::xs) (ev x::args.toList.map ev):=by simpa[Op.operands,Call.operands]using h
 simp only[RepL,Rep]at h';obtain⟨u,vs,h1,⟨us,h2,h3⟩,h4⟩:=h';simp only[List.cons.injEq]at h1;refine⟨us,by rw[h1.1];exact h2,?_⟩;rw[qcz,h1.2];exact h4.append h3
theorem a_callV{xs cs:List AV}{rds:List (Nat×Slot)}{res:AV}{news:List (Nat×AObj)}(ρ:Nat→Nat)(hf:P.funcs[f]?=some fn)(hb:fn.body.isNone=false)(hn:(fn.name== "runtime.NumGoroutine")=false)
 (hC:Fn P f (AV.viewL (fun _=>false) (zcC rds) (xs++cs)) res news) (h1:res.noSl=true) (h2:news.all (fun p=>p.2.noSl)=true) (h3:res.okIn (news.map Prod.fst)=true) (h4:zbL (news.map Prod.fst)=true) (h5:zbL (news.map fun p=>ρ p.1)=true):
 AOp P ⟨d,.call {callee:=.value x,args:=args,argTypes:=ts},ty,pos,af,g⟩ (.fn f cs::xs) (rds++news.map fun p=>(ρ p.1,.un)) (zb4 ρ news) (res.ren ρ):=by
 intro w0 A S m heap w ev hm hR hrd;obtain⟨us,e1,e2⟩:=zjZ hR;unfold Out;rw[zhp hf hb hn e1]
 have hO:∀o ob,zcC rds o=.live ob→∃v,m o=some v∧ORep w0.heap.size S m w ob v:=fun o ob ho=>by
  rcases zfD (heap:=heap) (rds:=rds) (o:=o) (fun p hp=>hrd p qbf)with h|h
  ·rw[h]at ho;cases ho
  ·rw[h]at ho;obtain⟨v,k1,k2,_⟩:=hm.live o ob ho;exact⟨v,k1,k2⟩
 have hT:∀o ob v b,zcC rds o=.live ob→m o=some v→blk v=some b→b<w.heap.size:=fun o ob v b ho hv hb=>by
  obtain⟨v',k1,k2⟩:=hO o ob ho;rw[hv]at k1;cases k1;exact(k2.lt hb).2
 have e3:=zd0 (keep:=fun _=>false) (T:=fun b=>b<w.heap.size) (m':=fun _=>none) hO (fun b hb=>hm.sW b hb)
  (fun o off n size u _ hr=>zen hO (fun b hb=>hm.sW b hb) (fun ob v b g1 g2 g3=>hT o ob v b g1 g2 g3) hr)
  (fun o u _ hr=>zfE hO (fun b hb=>hm.sW b hb) (fun ob v b g1 g2 g3=>hT o ob v b g1 g2 g3) hr) (fun o v hk=>by cases hk) _ _ e2
 have hcall:=hC w (fun b=>b<w.heap.size) _ (fun b h=>h) (hm.gl.below hm.bel) e3;have e4:args.map ev++us.toArray=((args.map ev).toList++us).toArray:=qG;rw[e4];refine hcall.mono fun e w' ⟨v,he,S',m',hres,hk⟩=>⟨v,he,?_⟩
 obtain⟨m2,k1,k2,k3⟩:=zhU (S2:=S) ρ hm hk (Rep.noSl _ _ h1 hres) (fun o ob u ho hr=>hr.noSl (by
  have:=zck ho
  exact qbX.1 h2 _ this)) (fun b h=>h) (fun b h=>.inl h) (fun k hk=>by
  obtain⟨p,hp,rfl⟩:=qbv.1 hk
  exact hrd (ρ p.1,.un) (qcv _ (qbv.2 ⟨p,hp,rfl⟩))) h4 h5 h3
 exact⟨S,m2,k1,k2,k3⟩
theorem a_callS{xs cs:List AV}{res:AV}{news:List (Nat×AObj)}(ρ:Nat→Nat)(hf:P.funcs[f]?=some fn)(hb:fn.body.isNone=false)(hn:(fn.name== "runtime.NumGoroutine")=false)
 (hC:Fn P f (xs++cs) res news) (h1:AV.okInL [] (xs++cs)=true) (h3:res.okIn (news.map Prod.fst)=true) (h4:zbL (news.map Prod.fst)=true) (h5:zbL (news.map fun p=>ρ p.1)=true):
 AOp P ⟨d,.call {callee:=.value x,args:=args,argTypes:=ts},ty,pos,af,g⟩ (.fn f cs::xs) (news.map fun p=>(ρ p.1,.un)) (zb4 ρ news) (res.ren ρ):=by
 intro w0 A S m heap w ev hm hR hrd;obtain⟨us,e1,e2⟩:=zjZ hR;unfold Out;rw[zhp hf hb hn e1]
 have e3:RepL S (fun _=>none) w (xs++cs) ((args.map ev).toList++us):=by
  have ren_id:∀x:List AV,AV.renL (fun o=>o) x=x:=by
   intro x;exact zhV x
  exact RepL.unren (m:=m) (K:=[]) (ρ:=fun o=>o) (fun o ho=>by cases ho) _ _ h1 (by rw[ren_id];exact e2)
 have hcall:=hC w S _ hm.sW (hm.gl.below hm.bel) e3;have e4:args.map ev++us.toArray=((args.map ev).toList++us).toArray:=qG;rw[e4];refine hcall.mono fun e w' ⟨v,he,S',m',hres,hk⟩=>⟨v,he,?_⟩
 have hsub:∀b,S' b→S b∨(S' b∧w.heap.size≤b):=fun b hb=>(hk.sA b hb).imp id fun h=>⟨hb,h⟩
 obtain⟨m2,k1,k2,k3⟩:=zhU (S2:=fun b=>S b∨(S' b∧w.heap.size≤b)) ρ hm hk (Rep.mono ⟨hsub,fun _ _=>rfl,fun _ _ h=>h⟩ _ _ hres) (fun o ob u ho hr=>hr.mono ⟨hsub,fun _ _=>rfl,fun _ _ h=>h⟩ fun _ _=>rfl) (fun b h=>.inl h) (fun b h=>h) (fun k hk=>by
  obtain⟨p,hp,rfl⟩:=qbv.1 hk
  exact hrd (ρ p.1,.un) (qbv.2 ⟨p,hp,rfl⟩)) h4 h5 h3
 exact⟨_,m2,k1,k2,k3⟩
theorem zjk{cs:List AV}{capt:Array Operand}:AOp P ⟨d,.makeFunc (.func f) #[] capt,ty,pos,af,g⟩ cs [] [] (.fn f cs):=
 zaE fun S m w ev hr=>by
  have hr':RepL S m w cs (capt.toList.map ev):=qa1;refine⟨.func (.func f) #[] (capt.map ev),by simp[execOp,Instr.makeFunc],?_⟩;simp only[Rep];exact⟨capt.toList.map ev,by rw[←qcz,Array.toArray_toList],hr'⟩
end
def zaS(P:Program)(s:TypeId)(f:Nat):Option (Nat×Nat):=
 match P.underlying s with
 |some (.struct fs)=>match fs[f]? with
  |some x=>(P.info? x.type).map fun i=>(x.offset,i.size)
  |none=>none
 |_=>none
theorem zfw{P:Program}{s:TypeId}{f off k:Nat}(h:zaS P s f=some (off,k)):∃fs,P.underlying s=some (.struct fs)∧(fs[f]?).map (·.offset)=some off∧((fs[f]?).bind fun x=>(P.info? x.type).map (·.size))=some k:=by
 unfold zaS at h
 split at h
 ·rename_i fs hu;refine⟨fs,hu,?_⟩;cases hq:fs[f]? with
  |none=>simp[hq]at h
  |some x=>
   simp only[hq,qcK,Prod.mk.injEq]at h;obtain⟨i,hi,rfl,rfl⟩:=h;simp[hi]
 ·cases h
def zdJ(P:Program)(t:TypeId):Option (List (Nat×Nat)):=
 match P.underlying t with
 |some (.struct fs)=>fs.toList.mapM fun f=>(P.info? f.type).map fun i=>(f.offset,i.size)
 |_=>none
theorem ziR{P:Program}(w:World):∀{l:List Field} {ps:List (Nat×Nat)},l.mapM (fun f=>(P.info? f.type).map fun i=>(f.offset,i.size))=some ps→
 (l.mapM (fun f=>do pure (f.offset,←sizeOf f.type)):Sem (List (Nat×Nat))).run P w=.ok ps w
 | [],ps,h=>by simp at h;subst h;rfl
 |f::l,ps,h=>by
  simp only[List.mapM_cons,Option.bind_eq_bind,Option.bind_eq_some_iff,qcK]at h;obtain⟨p,⟨i,hi,rfl⟩,qs,hq,h⟩:=h;have hp:ps=(f.offset,i.size)::qs:=by simpa using h.symm
  subst hp;have hs:=zbr (P:=P) (t:=f.type) (n:=i.size) (by rw[hi];rfl) w;simp only[List.mapM_cons,qbw,hs,qbr,qbx,ziR w hq]
section
variable {P:Program}{d:Option Tmp}{ty:TypeId}{pos:String}{af:Array Edge}{g:Option (Nat×Bool)}
theorem zaC{x:Operand}{s:TypeId}{f off k:Nat}{o p:Nat}(h:zaS P s f=some (off,k+1)){q:Nat}(hq:p+off=q):AOp P ⟨d,.fieldAddr s x f,ty,pos,af,g⟩ [.ref o p] [] [] (.ref o q):=by
 obtain⟨fs,h1,h2,h3⟩:=zfw h;exact a_fieldAddr h1 h2 h3 hq
theorem zan{x:Operand}{s:TypeId}{f off k:Nat}{cs ds:List PV}(h:zaS P s f=some (off,k+1))(hd:cs.drop off=ds):AOp P ⟨d,.fieldAddr s x f,ty,pos,af,g⟩ [.ptr cs] [] [] (.ptr ds):=by
 obtain⟨fs,h1,h2,h3⟩:=zfw h;exact a_fieldAddrP h1 h2 h3 hd
theorem zaf{x y:Operand}{t bt:TypeId}{o k:Nat}{cs:List AV}{Y:AV}(hi:(P.info? t).map (·.size)=some k)(hY:Y.stor=true)(hl:Y.cells.length=k)(hc:cs.length=k):
 AOp P ⟨d,.store t x y,ty,pos,af,g⟩ [.ref o 0,Y] [(o,.live (.box bt cs))] [(o,.live (.box bt Y.cells))] .any:=
 zbt hi hY hl qp (by
  unfold setR
  rw[hl,←hc,qcb,qb0,qbO,List.drop_length,List.append_nil])
theorem a_max{x y:Operand}{ts:Array TypeId}{k k':IntKind}{a b:Int}:AOp P ⟨d,.call {callee:=.builtin .max,args:= #[x,y],argTypes:=ts},ty,pos,af,g⟩ [.p (.v (.int k a)),.p (.v (.int k' b))] [] [] (.p (.v (.int k (max a b)))):=
 zaE fun S m w ev hr=>by
  obtain⟨h1,h2⟩:=zb9 (u:=ev x) (v:=ev y) hr;refine⟨.int k (max a b),?_,za7 rfl⟩;have e:(if b>a then b else a)=max a b:=by split<;>omega
  simp[execOp,resolve,invoke,builtin,Builtin.max_,Builtin.max2,zbb h1,zbb h2,e]
theorem zbO{t:TypeId}{parts:Array (Nat×Operand)}{z:Value}{places:List (Nat×Nat)}{xs es:List AV}(hp:zdJ P t=some places)(hz:(P.info? t).map (·.zero)=some (some z))(hz1:(zcd z).stor=true)
 (hf:zgU (fun i=>places[i]?) (zcd z).cells ((parts.toList.map Prod.fst).zip xs)=some es):AOp P ⟨d,.build t parts,ty,pos,af,g⟩ xs [] [] (.agg es):=by
 unfold zdJ at hp
 split at hp
 ·rename_i fs hu;refine a_build (places:=places.toArray) hu hz hz1 (fun w=>?_) (by simpa using hf);rw[Array.mapM_eq_mapM_toList,Sem.run_map,ziR (P:=P) w hp];rfl
 ·cases hp
end
def AV.strip:AV→AV
 | .mb _ x=>x
 |x=>x
inductive StripOK(b:Bool):List AV→Prop
 |nil:StripOK b []
 |plain (x:AV) (l:List AV):x.strip=x→StripOK b l→StripOK b (x::l)
 |mb (b':Bool) (x:AV) (l:List AV):(b=true→b'=true)→StripOK b l→StripOK b (.mb b' x::l)
theorem zem{b:Bool}:StripOK b []:=.nil
theorem stripOK_p{b:Bool}{x:PV}{l:List AV}(h:StripOK b l):StripOK b (.p x::l):=.plain _ _ rfl h
theorem zhM{b:Bool}{o off:Nat}{l:List AV}(h:StripOK b l):StripOK b (.ref o off::l):=.plain _ _ rfl h
theorem zhL{b:Bool}{o:Nat}{l:List AV}(h:StripOK b l):StripOK b (.row o::l):=.plain _ _ rfl h
theorem zhN{b:Bool}{c:List PV}{l:List AV}(h:StripOK b l):StripOK b (.ptr c::l):=.plain _ _ rfl h
theorem zhO{b:Bool}{c:List AV}{l:List AV}(h:StripOK b l):StripOK b (.agg c::l):=.plain _ _ rfl h
theorem zcB{b b':Bool}{x:AV}{l:List AV}(hb:b=true→b'=true)(h:StripOK b l):StripOK b (.mb b' x::l):=.mb _ _ _ hb h
theorem StripOK.rep{b:Bool}(hb:b=true){S:Nat→Prop}{m:Nat→Option Value}{w:World}:∀{xs:List AV} {us:List Value},StripOK b xs→RepL S m w xs us→RepL S m w (xs.map AV.strip) us
 | [],us,_,h=>h
 |x::xs,us,hs,h=>by
  simp only[qbu,RepL]at h⊢;obtain⟨u,us,h1,h2,h3⟩:=h;cases hs with
  |plain _ _ e hl=>exact⟨u,us,h1,by rw[e];exact h2,hl.rep hb h3⟩
  |mb b' x _ e hl=>
   simp only[Rep]at h2;exact⟨u,us,h1,h2.1 (e hb),hl.rep hb h3⟩
theorem r_mb2{P:Program}{ops:Array Oper}{K:List Foot→St→Prop}{o:Oper}{l:List Oper}{fs:List Foot}{st:St}{xs':List AV}{rds:List (Nat×Slot)}{r:AV}(b:Bool)(hg:zaJ ops o st=some b)(hx:(o.op.operands.toList.map st.ev).map AV.strip=xs')
 (hs:StripOK b (o.op.operands.toList.map st.ev)) (h:b=true→AOp P o xs' rds [] r) (hr:b=true→Rds st rds)
 (k:ARun P ops K l (fs++[(rds.map Prod.fst,[])]) (st.put o.dst (.mb b r))):ARun P ops K (o::l) fs st:=
 r_mb b hg rfl (fun hb S m w us hR=>hs.rep hb hR) (fun hb=>hx▸h hb) hr k
inductive StripTo(b:Bool):List AV→List AV→Prop
 |nil:StripTo b [] []
 |keep (x:AV) (l l':List AV):StripTo b l l'→StripTo b (x::l) (x::l')
 |mb (b':Bool) (x:AV) (l l':List AV):(b=true→b'=true)→StripTo b l l'→StripTo b (.mb b' x::l) (x::l')
theorem StripTo.rep{b:Bool}(hb:b=true){S:Nat→Prop}{m:Nat→Option Value}{w:World}:∀{xs xs':List AV} {us:List Value},StripTo b xs xs'→RepL S m w xs us→RepL S m w xs' us
 |_,_,us,.nil,h=>h
 |_,_,us,.keep x l l' hs,h=>by
  simp only[RepL]at h⊢;obtain⟨u,us,h1,h2,h3⟩:=h;exact⟨u,us,h1,h2,hs.rep hb h3⟩
 |_,_,us,.mb b' x l l' e hs,h=>by
  simp only[RepL,Rep]at h⊢;obtain⟨u,us,h1,h2,h3⟩:=h;exact⟨u,us,h1,h2.1 (e hb),hs.rep hb h3⟩
theorem r_mb3{P:Program}{ops:Array Oper}{K:List Foot→St→Prop}{o:Oper}{l:List Oper}{fs:List Foot}{st:St}{xs xs':List AV}{rds:List (Nat×Slot)}{r:AV}(b:Bool)(hg:zaJ ops o st=some b)(hx:o.op.operands.toList.map st.ev=xs)
 (hs:StripTo b xs xs') (h:b=true→AOp P o xs' rds [] r) (hr:b=true→Rds st rds)
 (k:ARun P ops K l (fs++[(rds.map Prod.fst,[])]) (st.put o.dst (.mb b r))):ARun P ops K (o::l) fs st:=
 r_mb b hg hx (fun hb S m w us hR=>hs.rep hb hR) h hr k
theorem zcX{α:Type}{l:List α}{k:Nat}(h:l.length=k):(l.drop 0).take k=l:=by rw[qcc,qbC (by omega)]
theorem zat{K:St→Prop}{Q:Exit→St→Prop}{st:St}(h:K st):Thn K Q .normal st:=h
theorem zaZ{K:St→Prop}{Q:Exit→St→Prop}{st:St}(h:Q .ret st):Thn K Q .ret st:=h
theorem za8{K:St→Prop}{Q:Exit→St→Prop}{st:St}{i:Nat}(h:Q (.exit i) st):Thn K Q (.exit i) st:=h
theorem zaW{i:Nat}{Q:Exit→St→Prop}{st:St}(h:Q .normal st):InB i Q .normal st:=h
theorem zbd{i:Nat}{Q:Exit→St→Prop}{st:St}(h:Q .ret st):InB i Q .ret st:=h
theorem zbi{i:Nat}{Q:Exit→St→Prop}{st:St}(h:Q .normal st):InB i Q (.exit i) st:=by simp only[InB,if_true];exact h
theorem zbq{i j:Nat}{Q:Exit→St→Prop}{st:St}(hne:Nat.beq j i=false)(h:Q (.exit j) st):InB i Q (.exit j) st:=by
 have:j≠i:=fun e=>by subst e;simp at hne
 simp only[InB,if_neg this];exact h
theorem zai{st:St}(ρ:Nat→Nat)(ts:List (Nat×AV))(hs:List (Nat×AObj))(h1:LeT ρ st (hs.map Prod.fst) ts)(h2:LeO ρ st (hs.map Prod.fst) hs)(h3:zbL (hs.map fun p=>ρ p.1)=true):Re st (St.of ts hs):=
 fun w0 A nt a w h=>h.restate ρ ts hs h1 h2 h3
theorem Re.trans{a b c:St}(h:Re a b)(k:Re b c):Re a c:=fun w0 A nt x w hs=>k w0 A nt x w (h w0 A nt x w hs)
theorem Re.refl(a:St):Re a a:=fun _ _ _ _ _ h=>h
theorem zag{P:Program}{w0:World}{A:Ctx1}{nt:Nat}{Q:Exit→St→Prop}{st:St}{c:Code}(I:Nat→St→Prop)(n:Nat)(h0:∃st1,Re st st1∧I n st1)(round:∀n st,I n st→awp ⟨P,w0,ctx0 A,nt⟩ c (Thn (fun st'=>∃n'<n,∃st1,Re st' st1∧I n' st1) Q) st):awp ⟨P,w0,ctx0 A,nt⟩ (.loop c) Q st:=
 awp_loop (fun n st=>∃st1,Re st st1∧I n st1) h0 fun n st ⟨st1,h1,h2⟩=>za3 h1 (round n st1 h2)
theorem zac{P:Program}{ops:Array Oper}{K:List Foot→St→Prop}{fs:List Foot}{st:St}(h:K fs st):ARun P ops K [] fs st:=h
theorem zaN{P:Program}{w0:World}{A:Ctx}{nt:Nat}{Q:Exit→St→Prop}{st:St}{id:Nat}{l:List Oper}(hd:dstOK nt l=true)(h:ARun P l.toArray (fun _ st'=>Q .normal st') l [] st):awp ⟨P,w0,A,nt⟩ (.region id l.toArray false) Q st:=awp_region_text hd h
theorem za9(fuel:Nat){P:Program}{w0:World}{A:Ctx}{nt:Nat}{Q:Exit→St→Prop}{st:St}{id:Nat}{l:List Oper}(hm:P.follows .mixedOrders=true)(h:ARun P l.toArray (fun fs st'=>zer nt fuel l.toArray fs=true∧Q .normal st') l [] st):awp ⟨P,w0,A,nt⟩ (.region id l.toArray true) Q st:=awp_region_draw hm h
section
variable {P:Program}{ops:Array Oper}{K:List Foot→St→Prop}{l:List Oper}{fs:List Foot}{st:St}{d:Option Tmp}{ty:TypeId}{pos:String}{af:Array Edge}{gd:Option (Nat×Bool)}
theorem zaU{x:Operand}{args:Array Operand}{ts:Array TypeId}{f:FuncId}{fn:Func}{as cs:List AV}{res:AV}{news:List (Nat×AObj)}(ρ:Nat→Nat)(hC:Fn P f as res news)(hx:st.ev x=.fn f cs)(hxs:AV.viewL (fun _=>false) st.heap (args.toList.map st.ev++cs)=as)(hf:P.funcs[f]?=some fn)(hb:fn.body.isNone=false)(hn:(fn.name== "runtime.NumGoroutine")=false)
 (h1:res.noSl=true) (h2:news.all (fun p=>p.2.noSl)=true) (h3:res.okIn (news.map Prod.fst)=true) (h4:zbL (news.map Prod.fst)=true) (h5:zbL (news.map fun p=>ρ p.1)=true)
 (hun:Rds st (news.map fun p=>(ρ p.1,.un))) (hg:zaJ ops ⟨d,.call {callee:=.value x,args:=args,argTypes:=ts},ty,pos,af,gd⟩ st=some true) {r:AV} (hr:res.ren ρ=r) {wrs:List (Nat×Slot)} (hw:zb4 ρ news=wrs)
 (k:ARun P ops K l (fs++[(AV.objsL (args.toList.map st.ev++cs)++news.map (fun p=>ρ p.1),news.map fun p=>ρ p.1)]) ((st.upd wrs).put d r)):
 ARun P ops K (⟨d,.call {callee:=.value x,args:=args,argTypes:=ts},ty,pos,af,gd⟩::l) fs st:=by
 subst hxs;subst hr;subst hw
 have hview:AV.viewL (fun _=>false) (zcC ((AV.objsL (args.toList.map st.ev++cs)).map fun o=>(o,st.heap o))) (args.toList.map st.ev++cs)=AV.viewL (fun _=>false) st.heap (args.toList.map st.ev++cs):=zdo _ _ fun o ho=>by
  have:∀l:List Nat,o∈l→zcC (l.map fun o=>(o,st.heap o)) o=st.heap o:=by
   intro l
   induction l with
   |nil=>intro h;cases h
   |cons a l ih=>
    intro h
    by_cases e:o=a
    ·subst e;simp[zcC,updL]
    ·rcases qbA.1 h with h|h
     ·exact absurd h e
     ·simp only[qbu,zcC,updL,nbeq e,cond_false];exact ih h
  exact this _ ho
 have hop:=a_callV (P:=P) (d:=d) (ty:=ty) (pos:=pos) (af:=af) (g:=gd) (x:=x) (args:=args) (ts:=ts) (rds:=(AV.objsL (args.toList.map st.ev++cs)).map fun o=>(o,st.heap o)) ρ hf hb hn (by rw[hview];exact hC) h1 h2 h3 h4 h5;refine zab hop ?_ hg ?_ ?_
 ·rw[←hx];simp[Op.operands,Call.operands]
 ·have app:∀a b:List (Nat×Slot),Rds st a→Rds st b→Rds st (a++b):=by
   intro a
   induction a with
   |nil=>intro b _ h;exact h
   |cons p a ih=>intro b h1 h2;exact⟨h1.1,ih b h1.2 h2⟩
  refine app _ _ ?_ hun;generalize AV.objsL (args.toList.map st.ev++cs)=l
  induction l with
  |nil=>trivial
  |cons a l ih=>exact⟨rfl,ih⟩
 ·have e1:((AV.objsL (args.toList.map st.ev++cs)).map (fun o=>(o,st.heap o))++news.map fun p=>(ρ p.1,Slot.un)).map Prod.fst=AV.objsL (args.toList.map st.ev++cs)++news.map (fun p=>ρ p.1):=by
   simp[qcD,Function.comp_def]
  exact jaj
theorem zaA(K:List Nat):∀l:List PV,AV.okInL K (l.map AV.p)=true
 | []=>rfl
 |c::l=>by simp only[qbu,AV.okInL,AV.okIn,Bool.true_and,zaA K l]
theorem zbN{x:Operand}{args:Array Operand}{ts:Array TypeId}{f:FuncId}{fn:Func}{as cs:List AV}{res:AV}{news:List (Nat×AObj)}(ρ:Nat→Nat)(hC:Fn P f as res news)(hx:st.ev x=.fn f cs)(hxs:args.toList.map st.ev++cs=as)(hf:P.funcs[f]?=some fn)(hb:fn.body.isNone=false)(hn:(fn.name== "runtime.NumGoroutine")=false)
 (h1:AV.okInL [] as=true) (h3:res.okIn (news.map Prod.fst)=true) (h4:zbL (news.map Prod.fst)=true) (h5:zbL (news.map fun p=>ρ p.1)=true)
 (hun:Rds st (news.map fun p=>(ρ p.1,.un))) (hg:zaJ ops ⟨d,.call {callee:=.value x,args:=args,argTypes:=ts},ty,pos,af,gd⟩ st=some true) {r:AV} (hr:res.ren ρ=r) {wrs:List (Nat×Slot)} (hw:zb4 ρ news=wrs)
 (k:ARun P ops K l (fs++[(news.map (fun p=>ρ p.1),news.map fun p=>ρ p.1)]) ((st.upd wrs).put d r)):
 ARun P ops K (⟨d,.call {callee:=.value x,args:=args,argTypes:=ts},ty,pos,af,gd⟩::l) fs st:=by
 subst hxs;subst hr;subst hw;have hop:=a_callS (P:=P) (d:=d) (ty:=ty) (pos:=pos) (af:=af) (g:=gd) (x:=x) (args:=args) (ts:=ts) ρ hf hb hn hC h1 h3 h4 h5;refine zab hop ?_ hg hun ?_
 ·rw[←hx];simp[Op.operands,Call.operands]
 ·have e1:(news.map fun p=>(ρ p.1,Slot.un)).map Prod.fst=news.map (fun p=>ρ p.1):=by simp[qcD,Function.comp_def]
  exact jaj
end
class FI (P:Program) (s f:Nat) (r:outParam (Nat×Nat)):Prop where
 h:zaS P s f=some r
class RW (P:Program) (t:TypeId) (b:outParam Bool):Prop where
 h:∃ds,P.underlying t=some ds∧ds.isRow=b
class SL (P:Program) (t:TypeId) (e:outParam TypeId):Prop where
 h:P.underlying t=some (.slice e)
class IK (P:Program) (t:TypeId) (k:outParam IntKind):Prop where
 h:P.underlying t=some (.int k)
class SR (P:Program) (t:TypeId):Prop where
 h:P.underlying t=some .string
class BL (P:Program) (t:TypeId):Prop where
 h:P.underlying t=some .bool
class SU (P:Program) (t:TypeId):Prop where
 h:∃fs,P.underlying t=some (.struct fs)
class SZ (P:Program) (t:TypeId) (k:outParam Nat):Prop where
 h:(P.info? t).map (·.size)=some k
class ZR (P:Program) (t:TypeId) (z:outParam Value):Prop where
 h:(P.info? t).map (·.zero)=some (some z)
class PL (P:Program) (t:TypeId) (l:outParam (List (Nat×Nat))):Prop where
 h:zdJ P t=some l
class FU (P:Program) (f:FuncId) (fn:outParam Func):Prop where
 h:P.funcs[f]?=some fn
end Go.Proofs.YtdiljgkijgiboaaGreatDoor
