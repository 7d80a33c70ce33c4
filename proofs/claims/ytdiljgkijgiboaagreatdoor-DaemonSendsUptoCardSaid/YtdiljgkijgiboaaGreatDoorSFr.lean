/- Used. -/
import Derived.Test.YtdiljgkijgiboaaGreatDoorSMa4
import Derived.Lib.Overlaps
import Derived.Lib.AppendZerosOnto
set_option linter.all false
set_option maxRecDepth 100000
namespace Go.Proofs.YtdiljgkijgiboaaGreatDoor
open Go.RowKit Go.Sort
def allP:List AV→Option (List PV)
 | []=>some []
 | .p x::l=>(allP l).map (x:: ·)
 |_::_=>none
theorem zkd:∀{xs:List AV} {cs:List PV},allP xs=some cs→xs=cs.map AV.p
 | [],cs,h=>by simp only[allP,Option.some.injEq]at h;subst h;rfl
 |a::xs,cs,h=>by
  cases a with
  |p x=>
   simp only[allP]at h;cases hq:allP xs with
   |none=>simp[hq]at h
   |some zs=>
    simp only[hq,qcx,Option.some.injEq]at h;subst h;simp[zkd hq]
  |_=>simp[allP]at h
structure Fz where
 o:Nat
 P:Option (List PV)
 R:Option PV
 V:Option (List PV)
mutual
def fzA(f:Fz):AV→AV
 | .p x=>.p x
 | .agg cs=>.agg (fzL f cs)
 | .tup cs=>.tup (fzL f cs)
 | .ptr cs=>.ptr cs
 | .ref o off=>match f.P with
  |some cs=>bif (Nat.beq o f.o&&Nat.beq off 0)then .p (.pt cs)else .ref o off
  |none=>match f.V with
   |some cs=>bif Nat.beq o f.o then .ptr (cs.drop off)else .ref o off
   |none=>.ref o off
 | .row o=>match f.R with
  |some x=>bif Nat.beq o f.o then .p x else .row o
  |none=>.row o
 | .psl o off n size=>.psl o off n size
 | .pslc o n=>.pslc o n
 | .fn g cs=>.fn g (fzL f cs)
 | .mb b x=>.mb b (fzA f x)
 | .sat p=>.sat p
 | .mp o=>.mp o
 | .any=>.any
def fzL(f:Fz):List AV→List AV
 | []=>[]
 |c::cs=>fzA f c::fzL f cs
end
def fzS(f:Fz):Slot→Slot
 | .live (.box ty cs)=>.live (.box ty (fzL f cs))
 | .live (.rowA e size n c cs)=>.live (.rowA e size n c (fzL f cs))
 |s=>s
def St.fz(st:St)(f:Fz):St:=⟨fun t=>fzA f (st.tmps t),fun o=>bif Nat.beq o f.o then .dead else fzS f (st.heap o)⟩
section
variable {S S':Nat→Prop}{m:Nat→Option Value}{w:World}{f:Fz}{v0:Value}
mutual
theorem fzA_rep(hs:∀b,S b→S' b)(hm:m f.o=some v0)(hP:∀cs b,f.P=some cs→blk v0=some b→PRep S' w (.pt cs) (.pointer (some ⟨b,0,none⟩)))(hR:∀x,f.R=some x→PRep S' w x v0)(hV:∀cs b,f.V=some cs→blk v0=some b→PRep S' w (.pt cs) (.pointer (some ⟨b,0,none⟩))):∀(x:AV) (u:Value),Rep S m w x u→Rep S' m w (fzA f x) u
 | .p x,u,h=>by simp only[fzA,Rep]at h⊢;exact PRep.mono hs (fun _ _=>rfl) _ _ h
 | .agg cs,u,h=>by
  simp only[fzA,Rep]at h⊢;obtain⟨us,h1,h2,h3⟩:=h;exact⟨us,h1,zgS hs hm hP hR hV cs us h2,h3⟩
 | .tup cs,u,h=>by
  simp only[fzA,Rep]at h⊢;obtain⟨us,h1,h2⟩:=h;exact⟨us,h1,zgS hs hm hP hR hV cs us h2⟩
 | .ptr cs,u,h=>by
  simp only[fzA,Rep]at h⊢;obtain⟨b,off,vs,h1,h2,h3,h4⟩:=h;exact⟨b,off,vs,h1,hs b h2,PRepL.mono hs (fun _ _=>rfl) _ _ h3,h4⟩
 | .ref o off,u,h=>by
  unfold fzA;cases hq:f.P with
  |none=>
   simp only[];cases hv:f.V with
   |none=>simp only[Rep]at h⊢;exact h
   |some cs=>
    simp only[];cases hc:Nat.beq o f.o with
    |false=>simp only[cond_false,Rep]at h⊢;exact h
    |true=>
     have h1:o=f.o:=qbn hc;subst h1;simp only[cond_true,Rep]at h⊢;obtain⟨b,v1,h3,h4,rfl⟩:=h;rw[hm]at h3;obtain rfl:=Option.some.inj h3;have h5:=hV cs b hv h4;simp only[PRep]at h5;obtain⟨b',o',vs,e1,e2,e3,e4⟩:=h5;simp only[Value.pointer.injEq,Option.some.injEq,Addr.mk.injEq]at e1;obtain⟨rfl,rfl,_⟩:=e1;refine⟨b,off,vs.drop off,rfl,e2,e3.drop off,fun j v hj=>?_⟩;rw[qbF]at hj;have:=e4 _ v hj
     rwa [qbO]at this
  |some cs=>
   simp only[];cases hc:(Nat.beq o f.o&&Nat.beq off 0)with
   |false=>simp only[cond_false,Rep]at h⊢;exact h
   |true=>
    simp only[qbB]at hc;have h1:o=f.o:=qbn hc.1;have h2:off=0:=qbn hc.2;subst h1;subst h2;simp only[cond_true,Rep]at h⊢;obtain⟨b,v1,h3,h4,rfl⟩:=h;rw[hm]at h3;obtain rfl:=Option.some.inj h3;exact hP cs b hq h4
 | .row o,u,h=>by
  unfold fzA;cases hq:f.R with
  |none=>simp only[Rep]at h⊢;exact h
  |some x=>
   simp only[];cases hc:Nat.beq o f.o with
   |false=>simp only[cond_false,Rep]at h⊢;exact h
   |true=>
    have h1:o=f.o:=qbn hc;subst h1;simp only[cond_true,Rep]at h⊢;have h3:=h.1;rw[hm]at h3;obtain rfl:=Option.some.inj h3;exact hR x hq
 | .psl o off n sz,u,h=>by simp only[fzA,Rep]at h⊢;exact h
 | .pslc o n,u,h=>by simp only[fzA,Rep]at h⊢;exact h
 | .fn g cs,u,h=>by
  simp only[fzA,Rep]at h⊢;obtain⟨us,h1,h2⟩:=h;exact⟨us,h1,zgS hs hm hP hR hV cs us h2⟩
 | .mb b x,u,h=>by
  simp only[fzA,Rep]at h⊢;exact⟨fun hb=>fzA_rep hs hm hP hR hV x u (h.1 hb),h.2⟩
 | .sat sp,u,h=>by simpa only[fzA,Rep]using h
 | .mp o,u,h=>by simp only[fzA,Rep]at h⊢;exact h
 | .any,u,h=>by simp only[fzA,Rep]
theorem zgS(hs:∀b,S b→S' b)(hm:m f.o=some v0)(hP:∀cs b,f.P=some cs→blk v0=some b→PRep S' w (.pt cs) (.pointer (some ⟨b,0,none⟩)))(hR:∀x,f.R=some x→PRep S' w x v0)(hV:∀cs b,f.V=some cs→blk v0=some b→PRep S' w (.pt cs) (.pointer (some ⟨b,0,none⟩))):∀(x:List AV) (u:List Value),RepL S m w x u→RepL S' m w (fzL f x) u
 | [],u,h=>by simpa[fzL,RepL]using h
 |c::cs,u,h=>by
  simp only[fzL,RepL]at h⊢;obtain⟨u,us,h1,h2,h3⟩:=h;exact⟨u,us,h1,fzA_rep hs hm hP hR hV c u h2,zgS hs hm hP hR hV cs us h3⟩
end
end
theorem sim_fz{w0:World}{A:Ctx}{nt:Nat}{st:St}{a:Act}{w:World}{f:Fz}{ob:AObj}(h:st.heap f.o=.live ob)
 (key:∀S m v,Mem w0 A.A S m st.heap w→m f.o=some v→ORep w0.heap.size S m w ob v→(∀cs b,f.P=some cs→blk v=some b→PRep (fun x=>S x∨blk v=some x) w (.pt cs) (.pointer (some ⟨b,0,none⟩)))∧(∀x,f.R=some x→PRep (fun x=>S x∨blk v=some x) w x v)∧(∀cs b,f.V=some cs→blk v=some b→PRep (fun x=>S x∨blk v=some x) w (.pt cs) (.pointer (some ⟨b,0,none⟩))))
 (hs:Sim w0 A nt st a w):Sim w0 A nt (st.fz f) a w:=by
 obtain⟨⟨S,m,hm,hj,ht⟩,hsz,hd⟩:=hs;obtain⟨v,hv,hO,hnS⟩:=hm.live _ _ h;obtain⟨hP,hR,hV⟩:=key S m v hm hv hO;have hss:∀b,S b→(fun x=>S x∨blk v=some x) b:=fun b hb=>.inl hb
 have hlv:∀o s,(st.fz f).heap o=s→s≠.dead→o≠f.o∧s=fzS f (st.heap o):=fun o s ho hn=>by
  have e:(bif Nat.beq o f.o then Slot.dead else fzS f (st.heap o))=s:=ho
  by_cases hoo:o=f.o
  ·subst hoo;simp only[qcq,cond_true]at e;exact absurd e.symm hn
  ·rw[nbeq hoo,cond_false]at e;exact⟨hoo,e.symm⟩
 have hfl:∀s ob',fzS f s=.live ob'→∃ob,s=.live ob∧(ob'=ob∨(∃ty cs,ob=.box ty cs∧ob'=.box ty (fzL f cs))∨∃e size n c cs,ob=.rowA e size n c cs∧ob'=.rowA e size n c (fzL f cs)):=fun s ob' hq=>by
  cases s with
  |un=>cases hq
  |dead=>cases hq
  |live ob=>
   cases ob with
   |box ty cs=>simp only[fzS,Slot.live.injEq]at hq;exact⟨_,rfl,.inr (.inl ⟨ty,cs,rfl,hq.symm⟩)⟩
   |rowA e size n c cs=>simp only[fzS,Slot.live.injEq]at hq;exact⟨_,rfl,.inr (.inr ⟨e,size,n,c,cs,rfl,hq.symm⟩)⟩
   |row e size n cs=>simp only[fzS,Slot.live.injEq]at hq;exact⟨_,rfl,.inl hq.symm⟩
   |map es=>simp only[fzS,Slot.live.injEq]at hq;exact⟨_,rfl,.inl hq.symm⟩
 have g:Grow S m w (fun x=>S x∨blk v=some x) m w:=⟨hss,fun _ _=>rfl,fun _ _ h=>h⟩;refine⟨⟨_,m,⟨hm.bel,?_,?_,?_,?_,?_,hm.gl⟩,A.up _ _ _ _ _ _ g hj,fun t=>fzA_rep hss hv hP hR hV _ _ (ht t)⟩,hsz,hd⟩
 ·rintro b (hb|hb)
  ·exact hm.sA b hb
  ·exact .inr (hO.lt hb).1
 ·rintro b (hb|hb)
  ·exact hm.sW b hb
  ·exact(hO.lt hb).2
 ·intro o ho;obtain⟨_,h2⟩:=hlv o _ ho qG;refine hm.un o ?_;cases hq:st.heap o with
  |un=>rfl
  |dead=>rw[hq]at h2;cases h2
  |live ob=>rw[hq]at h2;cases ob<;>cases h2
 ·intro o ob' ho;obtain⟨h1,h2⟩:=hlv o _ ho qG;obtain⟨ob1,h3,h4⟩:=hfl _ _ h2.symm;obtain⟨v1,g1,g2,g3⟩:=hm.live o ob1 h3;refine⟨v1,g1,?_,?_⟩
  ·rcases h4 with rfl|⟨ty,cs,rfl,rfl⟩|⟨e,size,n,c,cs,rfl,rfl⟩
   ·exact ORep.mono g g2 fun _ _=>rfl
   rotate_left
   ·obtain⟨us,q1,q2,q3⟩:=g2;exact⟨us,zgS hss hv hP hR hV _ _ q1,q2,q3⟩
   ·obtain⟨b,us,q1,q2,q3,q4,q5⟩:=g2;exact⟨b,us,q1,q2,zgS hss hv hP hR hV _ _ q3,q4,q5⟩
  ·rintro b hb (hS|hS)
   ·exact g3 b hb hS
   ·exact h1 (hm.inj o f.o _ _ _ _ b h3 h g1 hv hb hS)
 ·intro o o' ob1 ob2 v1 v2 b ho ho' g1 g2 k1 k2;obtain⟨_,h2⟩:=hlv o _ ho qG;obtain⟨ob3,h3,_⟩:=hfl _ _ h2.symm;obtain⟨_,h5⟩:=hlv o' _ ho' qG;obtain⟨ob4,h6,_⟩:=hfl _ _ h5.symm;exact hm.inj o o' _ _ _ _ b h3 h6 g1 g2 k1 k2
theorem zeO{st:St}(o:Nat){ty:TypeId}{xs:List AV}{cs:List PV}(h:st.heap o=qj ty xs)(ha:allP xs=some cs):ReO st (st.fz ⟨o,some cs,none,none⟩):=by
 intro w0 A nt a w hs;refine sim_fz h (fun S m v hm hv hO=>⟨fun cs' b e hb=>?_,fun x e=>(by cases e),fun cs' b e hb=>(by cases e)⟩) hs;exact jbJ
theorem reo_fzV{st:St}(o:Nat){ty:TypeId}{xs:List AV}{cs:List PV}(h:st.heap o=qj ty xs)(ha:allP xs=some cs):ReO st (st.fz ⟨o,none,none,some cs⟩):=by
 intro w0 A nt a w hs;refine sim_fz h (fun S m v hm hv hO=>⟨fun cs' b e hb=>(by cases e),fun x e=>(by cases e),fun cs' b e hb=>?_⟩) hs;exact jbJ
theorem zbY{st:St}(o:Nat){e size n:Nat}{cs:List PV}(h:st.heap o=qk e size n cs):ReO st (st.fz ⟨o,none,some (.sl n size cs),none⟩):=by
 intro w0 A nt a w hs;refine sim_fz h (fun S m v hm hv hO=>⟨fun cs' b e hb=>(by cases e),fun x e=>?_,fun cs' b e hb=>(by cases e)⟩) hs;simp only[Option.some.injEq]at e;subst e;obtain⟨us,h1,h2⟩:=hO;have hl:=h1.length;have hr2:=fun b hb=>zcs h2 (b:=b) hb
 simp only[PRep];rcases h2.2 with⟨rfl,rfl⟩|⟨g,cap,cur,fz,rfl,_,hh,_,h8,h9,_,h10⟩
 ·exact⟨none,0,us,rfl,Nat.le_refl _,by rw[←hl,h2.1],PRepL.mono (fun _ h=>.inl h) (fun _ _=>rfl) _ _ h1,.inl rfl⟩
 ·exact⟨some ⟨g,0,none⟩,cap,us,rfl,h8,by rw[←hl,h2.1],PRepL.mono (fun _ h=>.inl h) (fun _ _=>rfl) _ _ h1,.inr ⟨g,0,rfl,.inr rfl,hr2 g rfl⟩⟩
theorem ze4{P:Program}{w0:World}{A:Ctx1}{nt:Nat}{id:Nat}{c d:Code}{Q:Exit→St→Prop}{st:St}(st1:St)(h:awp ⟨P,w0,ctx0 A,nt⟩ c (InB id (Thn (fun st'=>Re st' st1) Q)) st)(k:awp ⟨P,w0,ctx0 A,nt⟩ d Q st1):awp ⟨P,w0,ctx0 A,nt⟩ c (InB id (Thn (awp ⟨P,w0,ctx0 A,nt⟩ d Q) Q)) st:=
 zgw h fun e st' he=>by
  cases e with
  |normal=>exact za3 he k
  |exit j=>
   simp only[InB]at he⊢
   split at he
   ·rename_i hj;rw[if_pos hj];exact za3 he k
   ·rename_i hj;rw[if_neg hj];exact he
  |_=>exact he
theorem zcH{G:Env}{c:Code}{Q:Exit→St→Prop}{st st':St}(r:ReO st st')(h:awp G c Q st'):Thn (awp G c Q) Q .normal st:=za1 r h
section
variable {w0:World}{A S:Nat→Prop}{m:Nat→Option Value}{heap:Nat→Slot}{w w':World}
theorem mem_say(hm:Mem w0 A S m heap w){o:Nat}{ob ob':AObj}{v:Value}(hl:heap o=.live ob)(hv:m o=some v)(ho:ORep w0.heap.size S m w ob' v):Mem w0 A S m (updL heap [(o,.live ob')]) w:=by
 obtain⟨v',k1,k2,k3⟩:=hm.live o ob hl;rw[hv]at k1;cases k1;refine⟨hm.bel,hm.sA,hm.sW,fun o' ho'=>?_,fun o' ob2 ho'=>?_,fun o1 o2 ob1 ob2 v1 v2 b' h1 h2 h3 h4 h5 h6=>?_,hm.gl⟩
 ·by_cases e:o'=o
  ·subst e;simp[updL]at ho'
  ·simp only[updL,nbeq e,cond_false]at ho';exact hm.un o' ho'
 ·by_cases e:o'=o
  ·subst e;simp only[updL,qcq,cond_true,Slot.live.injEq]at ho';subst ho';exact⟨v,hv,ho,k3⟩
  ·simp only[updL,nbeq e,cond_false]at ho';exact hm.live o' ob2 ho'
 ·have key:∀{x:Nat} {obx:AObj},updL heap [(o,.live ob')] x=.live obx→∃oby,heap x=.live oby:=by
   intro x obx hx
   by_cases e:x=o
   ·subst e;exact⟨ob,hl⟩
   ·simp only[updL,nbeq e,cond_false]at hx;exact⟨obx,hx⟩
  obtain⟨_,g1⟩:=key h1;obtain⟨_,g2⟩:=key h2;exact hm.inj _ _ _ _ _ _ _ g1 g2 h3 h4 h5 h6
end
theorem reo_openR{st:St}(o:Nat){e size n:Nat}{cs:List PV}(h:st.heap o=qk e size n cs):ReO st ⟨st.tmps,updL st.heap [(o,.live (.rowA e size n none (cs.map AV.p)))]⟩:=by
 intro w0 A nt a w hs;obtain⟨⟨S,m,hm,hj,ht⟩,hsz,hd⟩:=hs;obtain⟨v,h1,h2,h3⟩:=hm.live o _ h;obtain⟨us,j1,j2⟩:=h2;exact⟨⟨S,m,mem_say hm h h1 ⟨us,j1.repL,j2,fun k hk=>by cases hk⟩,hj,ht⟩,hsz,hd⟩
section
variable {P:Program}{d:Option Tmp}{ty:TypeId}{pos:String}{af:Array Edge}{g:Option (Nat×Bool)}
theorem zcN{x y:Operand}{t e e':TypeId}{k:Nat}{kk:IntKind}{i:Int}{o n size:Nat}{c:Option Nat}{cs:List AV}(hu:P.underlying t=some (.slice e))(hi:(P.info? e).map (·.size)=some k)(h0:0≤i)(h1:i<n){q:Nat}(hq:i.toNat*k=q):
 AOp P ⟨d,.indexAddr t x y,ty,pos,af,g⟩ [.row o,.p (.v (.int kk i))] [(o,.live (.rowA e' size n c cs))] [] (.ref o q):=
 zbQ fun w0 A S m heap w ev hm hR hrd=>by
  obtain⟨hx,hy⟩:=zb9 (u:=ev x) (v:=ev y) hR;simp only[Rep]at hx;obtain⟨hx,_⟩:=hx;obtain⟨v,k1,k2,_⟩:=hm.live o _ (rd1 hrd);rw[hx]at k1;obtain⟨us,j1,⟨j2,j3⟩,_⟩:=k2;rcases j3 with⟨rfl,h⟩|⟨b,cap,cur,fz,rfl,_⟩
  ·omega
  have e1:ev x=.slice (some ⟨b,0,none⟩) n cap:=Option.some.inj k1;refine⟨.pointer (some ⟨b,q,none⟩),by simp[execOp,e1,zbb hy,zep hu hi h0 h1,hq],?_⟩;simp only[Rep];exact⟨b,_,hx,by rw[e1];rfl,rfl⟩
theorem zfa{x:Operand}{t e:TypeId}{ds:TypeDesc}{o off size n:Nat}{c:Option Nat}{cs:List AV}{r:AV}(hu:P.underlying t=some ds)(hd:ds.isRow=false)(h:cs[off]?=some r):
 AOp P ⟨d,.load t x,ty,pos,af,g⟩ [.ref o off] [(o,.live (.rowA e size n c cs))] [] r:=
 zbQ fun w0 A S m heap w ev hm hR hrd=>by
  have ho:heap o=.live (.rowA e size n c cs):=rd1 hrd;have hx:=zco (u:=ev x) hR;simp only[Rep]at hx;obtain⟨b,v0,h1,h2,h3⟩:=hx;obtain⟨v,k1,k2,_⟩:=hm.live o _ ho;rw[h1]at k1;cases k1;obtain⟨us,j1,j3,_⟩:=k2;obtain⟨u,i1,i2⟩:=j1.at_ h;have hc:=zcs j3 h2 off u i1;rw[qbO]at hc;exact⟨u,by simp[execOp,h3,zf8 hu hd hc],i2⟩
theorem setR_take{α:Type}{l vs:List α}{d N:Nat}(h:d+vs.length≤N):(setR l d vs).take N=setR (l.take N) d vs:=by
 unfold setR;rw[List.take_append,List.take_append,qcP,Nat.min_eq_right (by omega:d≤N)]
 by_cases hd:d≤l.length
 ·have e1:(l.take d).length=d:=qad;rw[qbm,e1,List.drop_take,qcP,Nat.min_eq_left (by omega),qbC (by omega:vs.length≤N-d)]
 ·have e1:(l.take d).length=l.length:=qad;have e2:l.drop (d+vs.length)=[]:=List.drop_eq_nil_of_le qp;have e3:(l.take N).drop (d+vs.length)=[]:=List.drop_eq_nil_of_le qad;rw[qbm,e1,e2,e3,qbC (l:=vs) (by omega),List.take_nil,qcP,Nat.min_eq_left (by omega)]
theorem rowAt_set{w:World}{B b:Nat}{e:TypeId}{size n d:Nat}{v:Value}{us vs:List Value}(h:zkj w B e size v n us)(hb:blk v=some b)(hd:d+vs.length≤us.length):
 ∃cur fz,w.heap[b]?=some (.cells cur e fz)∧noFz fz cur.size∧us.length≤cur.size∧zkj (w.setRow b (setR cur.toList d vs).toArray) B e size v n (setR us d vs):=by
 obtain⟨h1,h2⟩:=h;rcases h2 with⟨rfl,_⟩|⟨g,cap,cur,fz,rfl,g1,g2,g3,g4,g5,g6,g7⟩
 ·simp[blk]at hb
 obtain rfl:g=b:=qav;have hle:n*size≤cur.size:=by rw[g6];exact qb8 _ g4
 have hfit:d+vs.length≤cur.toList.length:=by simp only[qch];omega
 have hsz:(setR cur.toList d vs).toArray.size=cur.size:=qau;refine⟨cur,fz,g2,g3,qp,by rw[zbV hd];exact h1,.inr ⟨g,cap,_,fz,rfl,g1,setRow_heap w g _ _ e fz g2,by rw[hsz];exact g3,g4,g5,by rw[hsz];exact g6,?_⟩⟩;show(setR cur.toList d vs).take (n*size)=_;rw[setR_take (by omega),g7]
theorem a_storeRA{x y:Operand}{t e:TypeId}{o off k size n:Nat}{c:Option Nat}{cs es:List AV}{Y:AV}(hi:(P.info? t).map (·.size)=some k)(hY:Y.stor=true)(hl:Y.cells.length=k)(hk:off+k≤cs.length)(h:setR cs off Y.cells=es):
 AOp P ⟨d,.store t x y,ty,pos,af,g⟩ [.ref o off,Y] [(o,.live (.rowA e size n c cs))] [(o,.live (.rowA e size n c es))] .any:=by
 intro w0 A S m heap w ev hm hR hrd;have ho:heap o=.live (.rowA e size n c cs):=rd1 hrd;obtain⟨hx,hy⟩:=zb9 (u:=ev x) (v:=ev y) hR;simp only[Rep]at hx;obtain⟨b,v0,h1,h2,h3⟩:=hx;obtain⟨v,k1,k2,k3⟩:=hm.live o _ ho;rw[h1]at k1;cases k1;obtain⟨us,j1,j2,j3⟩:=k2;obtain⟨c1,c2⟩:=zc4 hy hY;have hl1:=j1.length;have hl2:=c1.length;obtain⟨cur,fz,q1,q2,q4,q3⟩:=rowAt_set (d:=off) (vs:=(ev y).cells.toList) j2 h2 qp
 have hrun:=zdV hi q1 q2.cells (by rw[hl2,hl]) c2 (off:=off) qp
 have hex:(execOp ev ⟨d,.store t x y,ty,pos,af,g⟩).run P w=.ok .skip (w.setRow b (setR cur.toList off (ev y).cells.toList).toArray):=by
  simp only[execOp,h3,qbw,hrun,qbr,qbx]
 unfold Out;rw[hex];have hgr:Grow S m w S m (w.setRow b (setR cur.toList off (ev y).cells.toList).toArray):=⟨fun _ h=>h,fun c hS=>setRow_other w b c _ (fun e=>k3 b h2 (e▸hS)),fun _ _ h=>h⟩
 obtain⟨f1,f2⟩:=zgg hm (ob':=.rowA e size n c es) (v:=v0) (b:=b) (setR cur.toList off (ev y).cells.toList).toArray (cur:=cur) (t:=e) (fz:=fz) ho h1 h2
  ⟨_,h▸RepL.mono hgr _ _ (j1.setR off c1),q3,j3⟩
 exact⟨S,m,by simp only[Rep],f1,f2⟩
end
section
variable {P:Program}{d:Option Tmp}{ty:TypeId}{pos:String}{af:Array Edge}{g:Option (Nat×Bool)}
theorem zdm{t e:TypeId}{len size:Nat}(d':Nat){parts:Array (Nat×Operand)}{z0:Array Value}{xs es:List AV}(hu:P.underlying t=some (.slice e))(hi:(P.info? e).map (·.size)=some size)(hz:(P.info? e).map (fun i=>i.zero.map Value.cells)=some (some z0))
 (hl:len*size≤2^24) (hl0:0<len*size) (h1:z0.toList.all (fun x=>x.oneCell')=true)
 (hf:zgU (fun i=>some (i*size,size)) (((List.range (len*size)).map fun i=>(AV.p (.v (z0.getD (i%z0.size) default))))) ((parts.toList.map Prod.fst).zip xs)=some es) (hzs:0<z0.size):
 AOp P ⟨d,.buildSlice t len parts,ty,pos,af,g⟩ xs [(d',.un)] [(d',qj e es)] (.psl d' 0 len size):=by
 intro w0 A S mm heap w ev hm hR hrd;have hd':heap d'=.un:=rd1 hrd;have hr':RepL S mm w xs ((parts.toList.map Prod.snd).map ev):=by simpa[Op.operands]using hR
 obtain⟨k1,k2⟩:=zeR hr';have h1':∀x∈z0.toList,x.oneCell'=true:=by simpa only[qbX]using h1
 have hget:∀i,(z0[i%z0.size]!).oneCell'=true∧z0[i%z0.size]! =z0.getD (i%z0.size) default:=fun i=>by
  have hlt:=Nat.mod_lt i hzs;rw[getElem!_pos z0 _ hlt];refine⟨h1' _ qG,?_⟩;simp[qcm,hlt]
 have c1:RepL S mm w ((List.range (len*size)).map fun i=>(AV.p (.v (z0.getD (i%z0.size) default)))) ((Array.range (len*size)).map (z0[· %z0.size]!)).toList:=by
  have:((Array.range (len*size)).map (z0[· %z0.size]!)).toList=(List.range (len*size)).map (fun i=>z0[i%z0.size]!):=by simp[Array.toList_range]
  rw[this];generalize List.range (len*size)=l
  induction l with
  |nil=>simp[RepL]
  |cons i l ih=>
   simp only[qbu,RepL,Rep,PRep];exact⟨_,_,rfl,⟨(hget i).2,(hget i).2▸(hget i).1⟩,ih⟩
 have c2:∀x∈((Array.range (len*size)).map (z0[· %z0.size]!)).toList,x.oneCell'=true:=by
  intro x hx;simp only[qcz,qbv]at hx;obtain⟨i,_,rfl⟩:=hx;exact(hget i).1
 obtain⟨us',e1,e2,e3⟩:=zgr c1 c2 k1 k2 hf
 have hex:(execOp ev ⟨d,.buildSlice t len parts,ty,pos,af,g⟩).run P w=.ok (.value (.slice (some ⟨w.heap.size,0,none⟩) len len)) (w.alloc (.cells us' e)):=by
  cases hq:P.info? e with
  |none=>simp[hq]at hi
  |some i=>
   simp[hq]at hi hz;obtain⟨z,hz1,hz2⟩:=hz;have e1':Instr.fill (fun i=>some (i*size,size)) ((Array.range (len*size)).map (z0[· %z0.size]!)) (List.map (fun p=>(p.fst,ev p.snd)) parts.toList)=some us':=e1;have hlim:¬(len*size>2^24):=qp;have h0:¬(len*size=0):=qp;simp only[execOp,Instr.buildSlice,qbw,run_underlying hu,qbr,zbr (P:=P) (t:=e) (n:=size) (by rw[hq];simp[hi]),hlim,if_false,h0,zeroValue,typeInfo,run_program,hq,hz1,qbx,qcz,Sem.run_ite,hz2]
   simp only[e1',newRow,qbw,run_newObj,qbr,qbx];rfl
 unfold Out;rw[hex];have hb:Below w.heap.size w (w.alloc (.cells us' e)):=(Below.refl _ _).alloc (Nat.le_refl _) _;have hgr:=zey hm hb hd' (.pointer (some ⟨w.heap.size,0,none⟩))
 obtain⟨f1,f2⟩:=zev hm hb d' hd' (.pointer (some ⟨w.heap.size,0,none⟩)) (.box e es) (fun b hb=>by simp[blk]at hb;omega)
  ⟨w.heap.size,us'.toList,rfl,hm.hB,RepL.mono hgr _ _ e2,e3,by simpa using heap_alloc_new w (.cells us' e)⟩
 exact⟨S,_,by simp only[Rep];exact⟨_,_,rfl,Nat.le_refl _,.inr ⟨w.heap.size,.pointer (some ⟨w.heap.size,0,none⟩),by simp[setM],rfl,rfl⟩⟩,f1,f2⟩
def AV.cellOK:AV→Bool
 | .p _=>true
 | .row _=>true
 |_=>false
theorem zjc{S:Nat→Prop}{m:Nat→Option Value}{w:World}:∀{cs:List AV} {us:List Value},cs.all AV.cellOK=true→RepL S m w cs us→∀x∈us,x.oneCell'=true
 | [],us,_,h=>by simp only[RepL]at h;simp[h]
 |c::cs,us,hc,h=>by
  simp only[RepL]at h;obtain⟨u,us,rfl,h2,h3⟩:=h;simp only[List.all_cons,qbB]at hc;intro x hx;rcases qbA.1 hx with rfl|hx
  ·cases c with
   |p y=>simp only[Rep]at h2;exact h2.one
   |row o=>simp only[Rep]at h2;obtain⟨_,a,n,c,rfl⟩:=h2;rfl
   |_=>simp[AV.cellOK]at hc
  ·exact zjc hc.2 h3 x hx
theorem zgy{s x:Operand}{t e bt:TypeId}{size bytes:Nat}(d':Nat){o o2 n m:Nat}{cs ys zs:List AV}{c:Option Nat}(hu:P.underlying t=some (.slice e))(he:zcO P e size bytes=true)(hy0:ys.length=m*size)(hok:ys.all AV.cellOK=true)
 (hb1:n+m≤maxLen) (hb2:(n+m)*bytes≤140737488355328) {k:Nat} (hk:n+m=k) (hz:cs++ys=zs):
 AOp P ⟨d,.call {callee:=.builtin .append,args:= #[s,x],argTypes:= #[t,t]},ty,pos,af,g⟩ [.row o,.psl o2 0 m size] [(o,.live (.rowA e size n c cs)),(d',.un),(o2,qj bt ys)] [(d',.live (.rowA e size k none zs)),(o,.dead)] (.row d'):=by
 intro w0 A S mm heap w ev hm hR hrd;have ho:heap o=.live (.rowA e size n c cs):=hrd (o,_) qG;have hd':heap d'=.un:=hrd (d',_) qG;have ho2:heap o2=qj bt ys:=hrd (o2,_) qG;obtain⟨hx,hy⟩:=zb9 (u:=ev s) (v:=ev x) hR;simp only[Rep]at hx hy;obtain⟨a,cap,y1,y2,y3⟩:=hy;obtain⟨v2,l1,l2,_⟩:=hm.live o2 _ ho2;obtain⟨b2,vs,rfl,_,e2,e2o,l3⟩:=l2;have e3:vs.length=m*size:=by rw[e2.length,hy0]
 obtain⟨hx,_⟩:=hx;obtain⟨v,k1,k2,k3⟩:=hm.live o _ ho;rw[hx]at k1;have k1:=Option.some.inj k1;obtain⟨us,j1,j2,_⟩:=k2;obtain⟨i,z,i1,i2,i3,i4,i5⟩:=zeD he
 have e4:a=none→m=0:=fun h=>by
  rcases y3 with y3|⟨b,v0,_,_,h6⟩
  ·exact y3
  ·rw[h]at h6;cases h6
 have e5:∀ad,a=some ad→∀j v,vs[j]?=some v→w.cell? (ad.add j)=some v:=fun ad ha j v hj=>by
  rcases y3 with y3|⟨b,v0,h4,h5,h6⟩
  ·subst y3;have:vs=[]:=qbz (by rw[e3];simp);rw[this]at hj;simp at hj
  ·rw[ha]at h6;cases h6;rw[l1]at h4;cases h4;obtain rfl:b2=b:=by simpa[blk]using h5
   rw[Addr.add_mid];exact zc6 l3 j v hj
 obtain⟨v',w',hrun,hrow,hg,hblk⟩:=zeq (P:=P) w w0.heap.size t ty e i z size bytes hu i1 i2 i3 i4 i5 v n us j2 a m cap vs e3 e4 e5 e2o hb1 hb2 hm.hB;unfold Out
 have hex:(execOp ev ⟨d,.call {callee:=.builtin .append,args:= #[s,x],argTypes:= #[t,t]},ty,pos,af,g⟩).run P w=.ok (.value v') w':=by
  simp only[execOp,resolve,invoke,builtin,qbw,qbx,qbr,List.map_toArray,qbu,List.map_nil,k1,y1,hrun]
 rw[hex];have hmd:=hm.un d' hd';have hbb:∀b,blk v=some b→¬S b:=k3
 have hgr:Grow S mm w S (setM mm d' v') w':=⟨fun _ h=>h,fun b hS=>hg.block b (hm.sW b hS) (fun e=>hbb b e.symm hS),fun o' u hu=>by
  have hne:o'≠d':=fun e=>by rw[e,hmd]at hu;cases hu
  simpa[setM,hne]using hu⟩
 subst hk;subst hz
 obtain⟨f1,f2⟩:=mem_append hm (o:=o) (d:=d') (v:=v) (v':=v') (ob':=.rowA e size (n+m) none (cs++ys)) ho hd' (by rw[hx,k1]) hg hblk
  ⟨us++vs,RepL.mono hgr _ _ (j1.append e2),hrow,fun k hk=>by cases hk⟩
 refine⟨S,_,?_,f1,f2⟩;simp only[Rep];refine⟨by simp[setM],?_⟩;rcases hrow.2 with⟨rfl,_⟩|⟨g',cap,cur,fz,rfl,_⟩
 ·exact⟨none,0,0,rfl⟩
 ·exact⟨_,_,_,rfl⟩
end
def vs(us:List Value):List PV:=us.map PV.v
section
variable {w0:World}{A S:Nat→Prop}{m:Nat→Option Value}{heap:Nat→Slot}{w w':World}
end
section
variable {P:Program}{d:Option Tmp}{ty:TypeId}{pos:String}{af:Array Edge}{g:Option (Nat×Bool)}{x:Operand}{args:Array Operand}{ts:Array TypeId}{f:FuncId}{fn:Func}
end
inductive CellV(fam:List (Nat×Slot)):List AV→List PV→Prop
 |nil:CellV fam [] []
 |p (x:PV) (cs:List AV) (ps:List PV):CellV fam cs ps→CellV fam (.p x::cs) (x::ps)
 |row (o:Nat) (e size n:Nat) (qs:List PV) (cs:List AV) (ps:List PV):(o,Slot.live (.row e size n qs))∈fam→CellV fam cs ps→CellV fam (.row o::cs) (.sl n size qs::ps)
theorem CellV.append{fam:List (Nat×Slot)}{cs ds:List AV}{ps qs:List PV}(h:CellV fam cs ps)(k:CellV fam ds qs):CellV fam (cs++ds) (ps++qs):=by
 induction h with
 |nil=>exact k
 |p x cs ps _ ih=>exact .p x _ _ ih
 |row o e size n q cs ps h1 _ ih=>exact .row o e size n q _ _ h1 ih
theorem CellV.mono{fam fam':List (Nat×Slot)}(hs:∀p∈fam,p∈fam'){cs:List AV}{ps:List PV}(h:CellV fam cs ps):CellV fam' cs ps:=by
 induction h with
 |nil=>exact .nil
 |p x cs ps _ ih=>exact .p x _ _ ih
 |row o e size n q cs ps h1 _ ih=>exact .row o e size n q _ _ (hs _ h1) ih
section
variable {w0:World}{A S T:Nat→Prop}{m:Nat→Option Value}{heap:Nat→Slot}{w:World}{fam:List (Nat×Slot)}
theorem row_rep(hm:Mem w0 A S m heap w)(hS:∀b,S b→T b){o e size n:Nat}{qs:List PV}(ho:heap o=qk e size n qs)(hT:∀v b,m o=some v→blk v=some b→T b){u:Value}(hr:m o=some u):PRep T w (.sl n size qs) u:=by
 obtain⟨v,h1,⟨us,h2,h3⟩,_⟩:=hm.live o _ ho;rw[hr]at h1;obtain rfl:=Option.some.inj h1;have hl:=h2.length;have hr2:=fun b hb=>zcs h3 (b:=b) hb
 simp only[PRep];rcases h3.2 with⟨rfl,rfl⟩|⟨g,cap,cur,fz,rfl,_,hh,_,h8,h9,_,h10⟩
 ·exact⟨none,0,us,rfl,Nat.le_refl _,by rw[←hl,h3.1],PRepL.mono hS (fun _ _=>rfl) _ _ h2,.inl rfl⟩
 ·exact⟨some ⟨g,0,none⟩,cap,us,rfl,h8,by rw[←hl,h3.1],PRepL.mono hS (fun _ _=>rfl) _ _ h2,.inr ⟨g,0,rfl,hT _ g hr rfl,hr2 g rfl⟩⟩
theorem cellV_rep(hm:Mem w0 A S m heap w)(hS:∀b,S b→T b)(hfam:∀p∈fam,heap p.1=p.2)(hT:∀p∈fam,∀v b,m p.1=some v→blk v=some b→T b){cs:List AV}{ps:List PV}(h:CellV fam cs ps):∀{us:List Value},RepL S m w cs us→PRepL T w ps us:=by
 induction h with
 |nil=>intro us h;simpa only[RepL,PRepL]using h
 |p x cs ps _ ih=>
  intro us h;simp only[RepL,PRepL,Rep]at h⊢;obtain⟨u,us,rfl,h1,h2⟩:=h;exact⟨u,us,rfl,PRep.mono hS (fun _ _=>rfl) _ _ h1,ih h2⟩
 |row o e size n qs cs ps h1 _ ih=>
  intro us h;simp only[RepL,PRepL,Rep]at h⊢;obtain⟨u,us,rfl,⟨h2,_⟩,h3⟩:=h;exact⟨u,us,rfl,row_rep hm hS (hfam _ h1) (fun v b hv hb=>hT _ h1 v b hv hb) h2,ih h3⟩
end
section
variable {P:Program}{d:Option Tmp}{ty:TypeId}{pos:String}{af:Array Edge}{g:Option (Nat×Bool)}{x:Operand}{args:Array Operand}{ts:Array TypeId}{f:FuncId}{fn:Func}
end
theorem zhE{h:Nat→Slot}:∀{l:List (Nat×Slot)} {o:Nat},(updL h (l.map fun p=>(p.1,Slot.dead)) o=.dead∧o∈l.map Prod.fst)∨(updL h (l.map fun p=>(p.1,Slot.dead)) o=h o∧o∉l.map Prod.fst)
 | [],o=>.inr ⟨rfl,qG⟩
 |(n,s)::l,o=>by
  by_cases e:o=n
  ·subst e;exact .inl ⟨by simp[updL],qG⟩
  ·rcases zhE (h:=h) (l:=l) (o:=o)with⟨h1,h2⟩|⟨h1,h2⟩
   ·exact .inl ⟨by simp only[qbu,updL,nbeq e,cond_false];exact h1,by simp[h2]⟩
   ·exact .inr ⟨by simp only[qbu,updL,nbeq e,cond_false];exact h1,by simp only[qbu,qbA,not_or];exact⟨e,h2⟩⟩
theorem zdh{st:St}{fam:List (Nat×Slot)}{o e size n:Nat}{c:Option Nat}{cs:List AV}{ps:List PV}(hV:CellV fam cs ps)(hfam:∀p∈fam,st.heap p.1=p.2)(hl:fam.all (fun p=>match p.2 with| .live _=>true|_=>false)=true)
 (ho:st.heap o=.live (.rowA e size n c cs)) (hno:o∉fam.map Prod.fst):ReO st ⟨st.tmps,updL st.heap ((o,qk e size n ps)::fam.map fun p=>(p.1,.dead))⟩:=by
 rintro w0 A nt a w ⟨⟨S,m,hm,hj,hr⟩,hsz,hd⟩
 have hlive:∀p∈fam,∃ob,st.heap p.1=.live ob:=fun p hp=>by
  have:=qbX.1 hl p hp;have h1:=hfam p hp;cases hs:p.2 with
  |live ob=>exact⟨ob,h1.trans hs⟩
  |un=>rw[hs]at this;cases this
  |dead=>rw[hs]at this;cases this
 obtain⟨S',hS'⟩:∃S':Nat→Prop,S'=fun b=>S b∨∃p∈fam,∃v,m p.1=some v∧blk v=some b:=⟨_,rfl⟩
 have hs:∀b,S b→S' b:=fun b hb=>by rw[hS'];exact .inl hb
 have hTf:∀p∈fam,∀v b,m p.1=some v→blk v=some b→S' b:=fun p hp v b h1 h2=>by rw[hS'];exact .inr ⟨p,hp,v,h1,h2⟩
 have g:Grow S m w S' m w:=⟨hs,fun _ _=>rfl,fun _ _ h=>h⟩
 have hold:∀x ob,updL st.heap ((o,qk e size n ps)::fam.map fun p=>(p.1,.dead)) x=.live ob→x≠o→st.heap x=.live ob∧x∉fam.map Prod.fst:=fun x ob hx hne=>by
  simp only[updL,nbeq hne,cond_false]at hx;rcases zhE (h:=st.heap) (l:=fam) (o:=x)with⟨h1,_⟩|⟨h1,h2⟩
  ·rw[h1]at hx;cases hx
  ·rw[h1]at hx;exact⟨hx,h2⟩
 have hnS:∀x ob v b,st.heap x=.live ob→x∉fam.map Prod.fst→m x=some v→blk v=some b→¬S' b:=fun x ob v b hx hnf hv hb hS=>by
  obtain⟨v',k1,_,k3⟩:=hm.live x ob hx;rw[hv]at k1;cases k1;rw[hS']at hS;rcases hS with hS|⟨p,hp,v',h1,h2⟩
  ·exact k3 b hb hS
  ·obtain⟨ob',hob⟩:=hlive p hp;have:=hm.inj _ _ _ _ _ _ _ hx hob hv h1 hb h2;exact hnf (qbv.2 ⟨p,hp,this.symm⟩)
 refine⟨⟨S',m,⟨hm.bel,?_,?_,?_,?_,?_,hm.gl⟩,A.up _ _ _ _ _ _ g hj,fun k=>Rep.mono g _ _ (hr k)⟩,hsz,hd⟩
 ·intro b hb;rw[hS']at hb;rcases hb with hb|⟨p,hp,v,h1,h2⟩
  ·exact hm.sA b hb
  ·obtain⟨ob,hob⟩:=hlive p hp;obtain⟨v',k1,k2,_⟩:=hm.live _ _ hob;rw[h1]at k1;cases k1;exact .inr (k2.lt h2).1
 ·intro b hb;rw[hS']at hb;rcases hb with hb|⟨p,hp,v,h1,h2⟩
  ·exact hm.sW b hb
  ·obtain⟨ob,hob⟩:=hlive p hp;obtain⟨v',k1,k2,_⟩:=hm.live _ _ hob;rw[h1]at k1;cases k1;exact(k2.lt h2).2
 ·intro x hx
  by_cases e1:x=o
  ·subst e1;simp[updL]at hx
  ·simp only[updL,nbeq e1,cond_false]at hx;rcases zhE (h:=st.heap) (l:=fam) (o:=x)with⟨h1,_⟩|⟨h1,h2⟩
   ·rw[h1]at hx;cases hx
   ·rw[h1]at hx;exact hm.un x hx
 ·intro x ob hx
  by_cases e1:x=o
  ·subst e1;simp only[updL,qcq,cond_true,Slot.live.injEq]at hx;subst hx;obtain⟨v,h1,⟨us,h2,h3,_⟩,h4⟩:=hm.live x _ ho;exact⟨v,h1,⟨us,cellV_rep hm hs hfam hTf hV h2,h3⟩,fun b hb=>hnS x _ v b ho hno h1 hb⟩
  ·obtain⟨h1,h2⟩:=hold x ob hx e1;obtain⟨v,k1,k2,k3⟩:=hm.live x ob h1;exact⟨v,k1,k2.mono g fun _ _=>rfl,fun b hb=>hnS x ob v b h1 h2 k1 hb⟩
 ·intro x y ob1 ob2 v1 v2 b h1 h2 h3 h4 h5 h6
  have key:∀z obz,updL st.heap ((o,qk e size n ps)::fam.map fun p=>(p.1,.dead)) z=.live obz→∃ob',st.heap z=.live ob':=fun z obz hz=>by
   by_cases e1:z=o
   ·subst e1;exact⟨_,ho⟩
   ·exact⟨_,(hold z obz hz e1).1⟩
  obtain⟨_,g1⟩:=key _ _ h1;obtain⟨_,g2⟩:=key _ _ h2;exact hm.inj _ _ _ _ _ _ _ g1 g2 h3 h4 h5 h6
mutual
def AV.free(N:List Nat):AV→Bool
 | .ref o _=> !N.elem o
 | .row o=> !N.elem o
 | .psl o _ _ _=> !N.elem o
 | .pslc o _=> !N.elem o
 | .mp o=> !N.elem o
 | .agg cs=>AV.freeL N cs
 | .tup cs=>AV.freeL N cs
 | .fn _ cs=>AV.freeL N cs
 | .mb _ x=>AV.free N x
 | .p _=>true
 | .ptr _=>true
 | .sat _=>true
 | .any=>true
def AV.freeL(N:List Nat):List AV→Bool
 | []=>true
 |c::cs=>AV.free N c&&AV.freeL N cs
end
def AObj.free(N:List Nat):AObj→Bool
 | .box _ cs=>AV.freeL N cs
 | .rowA _ _ _ _ cs=>AV.freeL N cs
 |_=>true
def Slot.free(N:List Nat):Slot→Bool
 | .live ob=>ob.free N
 |_=>true
def cutN(N:List Nat)(m:Nat→Option Value)(o:Nat):Option Value:=bif N.elem o then none else m o
section
variable {S S':Nat→Prop}{m m':Nat→Option Value}{w w':World}{N:List Nat}
theorem zdQ{o:Nat}(h:(!N.elem o)=true):cutN N m o=m o:=by
 unfold cutN;rw[qcR]at h;rw[h];rfl
theorem zil{o:Nat}{v:Value}(hN:∀n,N.elem n=true→m n=none)(h:m o=some v)(m':Nat→Option Value):cutN N m' o=m' o:=by
 cases hq:N.elem o with
 |true=>rw[hN o hq]at h;cases h
 |false=>exact zdQ (by rw[hq];rfl)
mutual
theorem rep_cut:∀(x:AV) (u:Value),x.free N=true→Rep S m w x u→Rep S (cutN N m) w x u
 | .p x,u,_,h=>by simp only[Rep]at h⊢;exact h
 | .agg cs,u,f,h=>by
  simp only[Rep]at h⊢;obtain⟨us,rfl,h1,h2⟩:=h;exact⟨us,rfl,zfe cs us qaO h1,h2⟩
 | .tup cs,u,f,h=>by
  simp only[Rep]at h⊢;obtain⟨us,rfl,h1⟩:=h;exact⟨us,rfl,zfe cs us qaO h1⟩
 | .fn g cs,u,f,h=>by
  simp only[Rep]at h⊢;obtain⟨us,rfl,h1⟩:=h;exact⟨us,rfl,zfe cs us qaO h1⟩
 | .ptr _,u,_,h=>by simp only[Rep]at h⊢;exact h
 | .ref o _,u,f,h=>by simp only[AV.free]at f;simp only[Rep]at h⊢;rw[zdQ f];exact h
 | .row o,u,f,h=>by simp only[AV.free]at f;simp only[Rep]at h⊢;rw[zdQ f];exact h
 | .psl o _ _ _,u,f,h=>by simp only[AV.free]at f;simp only[Rep]at h⊢;rw[zdQ f];exact h
 | .pslc o _,u,f,h=>by simp only[AV.free]at f;simp only[Rep]at h⊢;rw[zdQ f];exact h
 | .mp o,u,f,h=>by simp only[AV.free]at f;simp only[Rep]at h⊢;rw[zdQ f];exact h
 | .mb b x,u,f,h=>by
  simp only[Rep]at h⊢;exact⟨fun hb=>rep_cut x u qaO (h.1 hb),h.2⟩
 | .sat _,u,_,h=>by simp only[Rep]at h⊢;exact h
 | .any,u,_,h=>by simp only[Rep]
theorem zfe:∀(l:List AV) (us:List Value),AV.freeL N l=true→RepL S m w l us→RepL S (cutN N m) w l us
 | [],us,_,h=>by simpa only[RepL]using h
 |c::cs,us,f,h=>by
  simp only[AV.freeL,qbB]at f;simp only[RepL]at h⊢;obtain⟨u,us,rfl,h1,h2⟩:=h;exact⟨u,us,rfl,rep_cut c u f.1 h1,zfe cs us f.2 h2⟩
end
mutual
theorem rep_cut2(hN:∀n,N.elem n=true→m n=none):∀(x:AV) (u v:Value),Rep S m w x v→Rep S' m' w' x u→Rep S' (cutN N m') w' x u
 | .p x,u,v,_,h=>by simp only[Rep]at h⊢;exact h
 | .agg cs,u,v,k,h=>by
  simp only[Rep]at h k⊢;obtain⟨us,rfl,h1,h2⟩:=h;obtain⟨vs,_,k1,_⟩:=k;exact⟨us,rfl,zd6 hN cs us vs k1 h1,h2⟩
 | .tup cs,u,v,k,h=>by
  simp only[Rep]at h k⊢;obtain⟨us,rfl,h1⟩:=h;obtain⟨vs,_,k1⟩:=k;exact⟨us,rfl,zd6 hN cs us vs k1 h1⟩
 | .fn g cs,u,v,k,h=>by
  simp only[Rep]at h k⊢;obtain⟨us,rfl,h1⟩:=h;obtain⟨vs,_,k1⟩:=k;exact⟨us,rfl,zd6 hN cs us vs k1 h1⟩
 | .ptr _,u,v,_,h=>by simp only[Rep]at h⊢;exact h
 | .ref o _,u,v,k,h=>by
  simp only[Rep]at h k⊢;obtain⟨_,_,k1,_⟩:=k;rw[zil hN k1];exact h
 | .row o,u,v,k,h=>by
  simp only[Rep]at h k⊢;rw[zil hN k.1];exact h
 | .psl o _ n _,u,v,k,h=>by
  simp only[Rep]at h k⊢;obtain⟨a,cap,rfl,h1,h2⟩:=h;obtain⟨_,_,_,_,k2⟩:=k;rcases k2 with k2|⟨_,_,k2,_⟩
  ·exact⟨a,cap,rfl,h1,.inl k2⟩
  ·exact⟨a,cap,rfl,h1,by rw[zil hN k2];exact h2⟩
 | .pslc o _,u,v,k,h=>by
  simp only[Rep]at h k⊢;obtain⟨_,_,_,k1,_⟩:=k;rw[zil hN k1];exact h
 | .mp o,u,v,k,h=>by
  simp only[Rep]at h k⊢;rw[zil hN k.1];exact h
 | .mb b x,u,v,k,h=>by
  simp only[Rep]at h k⊢;exact⟨fun hb=>rep_cut2 hN x u v (k.1 hb) (h.1 hb),h.2⟩
 | .sat _,u,v,_,h=>by simp only[Rep]at h⊢;exact h
 | .any,u,v,_,h=>by simp only[Rep]
theorem zd6(hN:∀n,N.elem n=true→m n=none):∀(l:List AV) (us vs:List Value),RepL S m w l vs→RepL S' m' w' l us→RepL S' (cutN N m') w' l us
 | [],us,_,_,h=>by simpa only[RepL]using h
 |c::cs,us,vs,k,h=>by
  simp only[RepL]at h k⊢;obtain⟨u,us,rfl,h1,h2⟩:=h;obtain⟨v,vs,rfl,k1,k2⟩:=k;exact⟨u,us,rfl,rep_cut2 hN c u v k1 h1,zd6 hN cs us vs k2 h2⟩
end
theorem orep_cut{B:Nat}:∀{ob:AObj} {v:Value},ob.free N=true→ORep B S m w ob v→ORep B S (cutN N m) w ob v
 | .box _ cs,v,f,⟨b,us,h1,h2,h3,h4⟩=>⟨b,us,h1,h2,zfe cs us f h3,h4⟩
 | .row _ _ _ _,v,_,h=>h
 | .map _,v,_,h=>h
 | .rowA _ _ _ _ cs,v,f,⟨us,h1,h2⟩=>⟨us,zfe cs us f h1,h2⟩
theorem orep_cut2(hN:∀n,N.elem n=true→m n=none){B B':Nat}:∀{ob:AObj} {u v:Value},ORep B S m w ob u→ORep B' S' m' w' ob v→ORep B' S' (cutN N m') w' ob v
 | .box _ cs,u,v,⟨_,vs,_,_,k,_⟩,⟨b,us,h1,h2,h3,h4⟩=>⟨b,us,h1,h2,zd6 hN cs us vs k h3,h4⟩
 | .row _ _ _ _,u,v,_,h=>h
 | .map _,u,v,_,h=>h
 | .rowA _ _ _ _ cs,u,v,⟨vs,k,_⟩,⟨us,h1,h2⟩=>⟨us,zd6 hN cs us vs k h1,h2⟩
end
theorem zek{heap:Nat→Slot}(q:Nat→Bool):∀(l:List (Nat×Slot)) (o:Nat),updL heap (l.filter fun p=>q p.1) o=bif q o then updL heap l o else heap o
 | [],o=>by cases q o<;>rfl
 |(n,s)::l,o=>by
  by_cases e:o=n
  ·subst e;cases hq:q o with
   |true=>simp[qcr,hq,updL]
   |false=>simp only[qcr,hq,qbJ,if_false,cond_false];rw[zek q l o,hq];rfl
  ·have hb:Nat.beq o n=false:=nbeq e;cases hn:q n with
   |true=>simp only[qcr,hn,if_true,updL,hb,cond_false];exact zek q l o
   |false=>simp only[qcr,hn,qbJ,if_false,updL,hb,cond_false];exact zek q l o
theorem ziH{heap:Nat→Slot}{s:Slot}:∀{l:List (Nat×Slot)} {o:Nat},updL heap l o=s→(o,s)∈l∨heap o=s
 | [],o,h=>.inr h
 |(n,t)::l,o,h=>by
  by_cases e:o=n
  ·subst e;simp only[updL,qcq,cond_true]at h;exact .inl (by simp[h])
  ·simp only[updL,nbeq e,cond_false]at h;rcases ziH h with h|h
   ·exact .inl (List.mem_cons_of_mem _ h)
   ·exact .inr h
def Slot.isUn:Slot→Bool
 | .un=>true
 |_=>false
theorem zeB{P:Program}{f:FuncId}{args:List AV}{rds wrs wrs':List (Nat×Slot)}{res:AV}(N:List Nat)(h:FnO P f args rds wrs res)(hN:N.all (fun n=>rds.any fun p=>Nat.beq p.1 n&&p.2.isUn)=true)(hw:(wrs.filter fun p=> !N.elem p.1)=wrs')(hf:wrs'.all (fun p=>p.2.free N)=true)(hr:res.free N=true):
 FnO P f args rds wrs' res:=by
 intro w0 A S m heap w us hm hu hrd
 have hNu:∀n,N.elem n=true→heap n=.un:=by
  intro n hn;have h1:=qbX.1 hN n qbh;obtain⟨p,hp,h2⟩:=List.any_eq_true.1 h1;rw[qbB]at h2;have e:p.1=n:=qbn h2.1;have h3:=hrd p hp;rw[e]at h3;rw[h3];cases hs:p.2 with
  |un=>rfl
  |_=>rw[hs]at h2;simp[Slot.isUn]at h2
 have hNm:∀n,N.elem n=true→m n=none:=fun n hn=>hm.un n (hNu n hn)
 have hup:∀o,updL heap wrs' o=bif !N.elem o then updL heap wrs o else heap o:=by
  intro o;rw[←hw];exact zek (fun n=> !N.elem n) wrs o
 have hupF:∀o,(!N.elem o)=true→updL heap wrs' o=updL heap wrs o:=fun o ho=>by rw[hup,ho];rfl
 have hupN:∀o,N.elem o=true→updL heap wrs' o=.un:=fun o ho=>by rw[hup,ho];exact hNu o ho
 have hlv:∀o ob,updL heap wrs' o=.live ob→(!N.elem o)=true:=by
  intro o ob ho;cases hq:N.elem o with
  |false=>rfl
  |true=>rw[hupN o hq]at ho;cases ho
 refine(h w0 A S m heap w us hm hu hrd).mono fun e w' ⟨v,he,S',m',h1,h2,h3⟩=>⟨v,he,S',cutN N m',rep_cut _ _ hr h1,?_,⟨h3.s,h3.w,fun o v ho=>by rw[zil hNm ho];exact h3.m o v ho⟩⟩
 refine⟨h2.bel,h2.sA,h2.sW,?_,?_,?_,h2.gl⟩
 ·intro o ho;cases hq:N.elem o with
  |true=>unfold cutN;rw[hq];rfl
  |false=>
   have hn:(!N.elem o)=true:=by rw[hq];rfl
   rw[zdQ hn];exact h2.un o (by rw[←hupF o hn];exact ho)
 ·intro o ob ho;have hn:=hlv o ob ho;have ho':=ho;rw[hupF o hn]at ho';obtain⟨v,k1,k2,k3⟩:=h2.live o ob ho';refine⟨v,by rw[zdQ hn];exact k1,?_,k3⟩;rcases ziH ho with hm1|hm1
  ·exact orep_cut (by have:=qbX.1 hf _ hm1;simpa[Slot.free]using this) k2
  ·obtain⟨v0,_,j2,_⟩:=hm.live o ob hm1;exact orep_cut2 hNm j2 k2
 ·intro o o' ob ob' v v' b ho ho' hv hv' hb hb';have hn:=hlv o ob ho;have hn':=hlv o' ob' ho';rw[hupF o hn]at ho;rw[hupF o' hn']at ho';rw[zdQ hn]at hv;rw[zdQ hn']at hv';exact h2.inj o o' ob ob' v v' b ho ho' hv hv' hb hb'
mutual
def AV.fz(h:Nat→Slot):AV→AV
 | .row o=>match h o with
  | .live (.row _ size n cs)=>.p (.sl n size cs)
  |_=>.row o
 | .agg cs=>.agg (AV.fzL h cs)
 | .tup cs=>.tup (AV.fzL h cs)
 |x=>x
def AV.fzL(h:Nat→Slot):List AV→List AV
 | []=>[]
 |c::cs=>AV.fz h c::AV.fzL h cs
end
mutual
def AV.fzOK(h:Nat→Slot):AV→Bool
 | .p _=>true
 | .row o=>match h o with
  | .live (.row _ _ _ _)=>true
  |_=>false
 | .agg cs=>AV.fzOKL h cs
 | .tup cs=>AV.fzOKL h cs
 |_=>false
def AV.fzOKL(h:Nat→Slot):List AV→Bool
 | []=>true
 |c::cs=>AV.fzOK h c&&AV.fzOKL h cs
end
section
variable {w0:World}{A S T:Nat→Prop}{m:Nat→Option Value}{heap:Nat→Slot}{w:World}
mutual
theorem rep_fz(hm:Mem w0 A S m heap w)(hS:∀b,S b→T b)(hT:∀o e size n cs v b,heap o=qk e size n cs→m o=some v→blk v=some b→T b):∀(x:AV) (u:Value),x.fzOK heap=true→Rep S m w x u→Rep T (fun _=>none) w (x.fz heap) u
 | .p x,u,_,h=>by
  simp only[AV.fz,Rep]at h⊢;exact PRep.mono hS (fun _ _=>rfl) _ _ h
 | .row o,u,ok,h=>by
  simp only[AV.fzOK]at ok;simp only[Rep]at h;cases hq:heap o with
  |live ob=>
   cases ob with
   |row e size n cs=>
    simp only[AV.fz,hq,Rep];exact row_rep hm hS hq (fun v b hv hb=>hT _ _ _ _ _ v b hq hv hb) h.1
   |_=>simp[hq]at ok
  |_=>simp[hq]at ok
 | .agg cs,u,ok,h=>by
  simp only[AV.fzOK]at ok;simp only[Rep]at h;obtain⟨us,rfl,h1,h2⟩:=h;simp only[AV.fz,Rep];exact⟨us,rfl,repL_fz hm hS hT cs us ok h1,h2⟩
 | .tup cs,u,ok,h=>by
  simp only[AV.fzOK]at ok;simp only[Rep]at h;obtain⟨us,rfl,h1⟩:=h;simp only[AV.fz,Rep];exact⟨us,rfl,repL_fz hm hS hT cs us ok h1⟩
 | .ptr _,_,ok,_=>by simp[AV.fzOK]at ok
 | .ref _ _,_,ok,_=>by simp[AV.fzOK]at ok
 | .psl _ _ _ _,_,ok,_=>by simp[AV.fzOK]at ok
 | .pslc _ _,_,ok,_=>by simp[AV.fzOK]at ok
 | .fn _ _,_,ok,_=>by simp[AV.fzOK]at ok
 | .mb _ _,_,ok,_=>by simp[AV.fzOK]at ok
 | .sat _,_,ok,_=>by simp[AV.fzOK]at ok
 | .mp _,_,ok,_=>by simp[AV.fzOK]at ok
 | .any,_,ok,_=>by simp[AV.fzOK]at ok
theorem repL_fz(hm:Mem w0 A S m heap w)(hS:∀b,S b→T b)(hT:∀o e size n cs v b,heap o=qk e size n cs→m o=some v→blk v=some b→T b):∀(l:List AV) (us:List Value),AV.fzOKL heap l=true→RepL S m w l us→RepL T (fun _=>none) w (AV.fzL heap l) us
 | [],us,_,h=>by simpa only[AV.fzL,RepL]using h
 |c::cs,us,ok,h=>by
  simp only[AV.fzOKL,qbB]at ok;simp only[RepL]at h;obtain⟨u,us,rfl,h1,h2⟩:=h;simp only[AV.fzL,RepL];exact⟨u,us,rfl,rep_fz hm hS hT c u ok.1 h1,repL_fz hm hS hT cs us ok.2 h2⟩
end
end
theorem zfq{P:Program}{f:FuncId}{args:List AV}{res res':AV}{news:List (Nat×AObj)}(h:Fn P f args res news)(hr:res.fz (zcT news)=res')(ok:res.fzOK (zcT news)=true):Fn P f args res' []:=by
 intro w A us hA hG hu;subst hr;refine(h w A us hA hG hu).mono fun en w' ⟨v,he,S',m',h1,h2⟩=>⟨v,he,fun b=>S' b∨∃o e size n cs v0,zcT news o=qk e size n cs∧m' o=some v0∧blk v0=some b,fun _=>none,?_,?_⟩
 ·exact rep_fz h2 (fun b hb=>.inl hb) (fun o e size n cs v b ho hv hb=>.inr ⟨o,e,size,n,cs,v,ho,hv,hb⟩) _ _ ok h1
 ·refine⟨h2.bel,?_,?_,fun o _=>rfl,fun o ob ho=>qaN,fun o o' ob ob' v v' b ho=>qaN,h2.gl⟩
  ·rintro b (hb|⟨o,e,size,n,cs,v0,h0,h3,h4⟩)
   ·exact h2.sA b hb
   ·obtain⟨v',k1,k2,_⟩:=h2.live o _ h0;rw[h3]at k1;cases k1;exact .inr (k2.lt h4).1
  ·rintro b (hb|⟨o,e,size,n,cs,v0,h0,h3,h4⟩)
   ·exact h2.sW b hb
   ·obtain⟨v',k1,k2,_⟩:=h2.live o _ h0;rw[h3]at k1;cases k1;exact(k2.lt h4).2
def nzP(x y:AV):Prop:=x=y∨∃k,x=qm∧y=ql 0 k []
def nzL:List AV→List AV→Prop
 | [],[]=>True
 |x::l,y::r=>nzP x y∧nzL l r
 |_,_=>False
def nzA(x y:AV):Prop:=nzP x y∨∃l r,x=.agg l∧y=.agg r∧nzL l r
def nzT:List AV→List AV→Prop
 | [],[]=>True
 |x::l,y::r=>nzA x y∧nzT l r
 |_,_=>False
section
variable {S:Nat→Prop}{m:Nat→Option Value}{w:World}
theorem rep_nzP{x y:AV}{u:Value}(h:nzP x y)(k:Rep S m w x u):Rep S m w y u:=by
 rcases h with rfl|⟨s,rfl,rfl⟩
 ·exact k
 ·simp only[Rep,PRep]at k⊢;obtain⟨rfl,_⟩:=k;simp only[PRepL];exact⟨none,0,[],rfl,Nat.le_refl _,qG,rfl,qG⟩
theorem repL_nz:∀{l r:List AV} {us:List Value},nzL l r→RepL S m w l us→RepL S m w r us
 | [],[],_,_,k=>k
 |x::l,y::r,us,h,k=>by
  simp only[RepL]at k⊢;obtain⟨u,us,rfl,k1,k2⟩:=k;exact⟨u,us,rfl,rep_nzP h.1 k1,repL_nz h.2 k2⟩
theorem rep_nzA{x y:AV}{u:Value}(h:nzA x y)(k:Rep S m w x u):Rep S m w y u:=by
 rcases h with h|⟨l,r,rfl,rfl,h⟩
 ·exact rep_nzP h k
 ·simp only[Rep]at k⊢;obtain⟨us,rfl,k1,k2⟩:=k;exact⟨us,rfl,repL_nz h k1,k2⟩
theorem repL_nzT:∀{l r:List AV} {us:List Value},nzT l r→RepL S m w l us→RepL S m w r us
 | [],[],_,_,k=>k
 |x::l,y::r,us,h,k=>by
  simp only[RepL]at k⊢;obtain⟨u,us,rfl,k1,k2⟩:=k;exact⟨u,us,rfl,rep_nzA h.1 k1,repL_nzT h.2 k2⟩
end
theorem fn_nzT{P:Program}{f:FuncId}{args l r:List AV}{news:List (Nat×AObj)}(h:Fn P f args (.tup l) news)(k:nzT l r):Fn P f args (.tup r) news:=by
 intro w A us hA hG hu;refine(h w A us hA hG hu).mono fun en w' ⟨v,he,S',m',h1,h2⟩=>⟨v,he,S',m',?_,h2⟩
 simp only[Rep]at h1⊢;obtain⟨us,rfl,h1⟩:=h1;exact⟨us,rfl,repL_nzT k h1⟩
theorem zdS{P:Program}{o:Oper}{xs:List AV}{rds:List (Nat×Slot)}{n:Nat}{e:TypeId}{size k:Nat}{zs:List PV}(h:AOp P o xs ((n,.un)::rds) [(n,qk e size k zs)] (.row n)):AOp P o xs ((n,.un)::rds) [] (ql k size zs):=by
 intro w0 A S m heap w ev hm hR hrd;have hn:heap n=.un:=hrd (n,.un) qG
 have hNm:∀i,[n].elem i=true→m i=none:=by
  intro i hi;have:i=n:=qai;subst this;exact hm.un _ hn
 have key:∀(v:Value) (w':World),(∃S' m',Rep S' m' w' (.row n) v∧Mem w0 A S' m' (updL heap [(n,qk e size k zs)]) w'∧Grow S m w S' m' w')→∃S' m',Rep S' m' w' (ql k size zs) v∧Mem w0 A S' m' (updL heap []) w'∧Grow S m w S' m' w':=by
  rintro v w' ⟨S',m',h1,h2,h3⟩;have hl:updL heap [(n,qk e size k zs)] n=qk e size k zs:=by simp[updL]
  have ho:∀i,i≠n→updL heap [(n,qk e size k zs)] i=heap i:=fun i hi=>by simp only[updL,nbeq hi,cond_false]
  simp only[Rep]at h1
  let T:Nat→Prop:=fun b=>S' b∨∃v0,m' n=some v0∧blk v0=some b
  have hST:∀b,S' b→T b:=fun b hb=>.inl hb
  refine⟨T,cutN [n] m',?_,⟨h2.bel,?_,?_,?_,?_,?_,h2.gl⟩,⟨fun b hb=>.inl (h3.s b hb),h3.w,fun i u hi=>by rw[zil hNm hi];exact h3.m i u hi⟩⟩
  ·simp only[Rep];exact row_rep h2 hST hl (fun v b hv hb=>.inr ⟨v,hv,hb⟩) h1.1
  ·rintro b (hb|⟨v0,h5,h4⟩)
   ·exact h2.sA b hb
   ·obtain⟨v',k1,k2,_⟩:=h2.live n _ hl;rw[h5]at k1;cases k1;exact .inr (k2.lt h4).1
  ·rintro b (hb|⟨v0,h5,h4⟩)
   ·exact h2.sW b hb
   ·obtain⟨v',k1,k2,_⟩:=h2.live n _ hl;rw[h5]at k1;cases k1;exact(k2.lt h4).2
  ·intro i hi
   by_cases e':i=n
   ·subst e';simp[cutN]
   ·have:(!([n].elem i))=true:=by simp[e']
    rw[zdQ this];exact h2.un i (by rw[ho i e'];exact hi)
  ·intro i ob hi;have hi0:heap i=.live ob:=hi;have e':i≠n:=fun e'=>by rw[e',hn]at hi0;cases hi0
   have hf:(!([n].elem i))=true:=by simp[e']
   obtain⟨v1,k1,k2,k3⟩:=h2.live i ob (by rw[ho i e'];exact hi0);obtain⟨v0,_,j2,_⟩:=hm.live i ob hi0;refine⟨v1,by rw[zdQ hf];exact k1,orep_cut2 hNm j2 (ORep.mono ⟨hST,fun _ _=>rfl,fun _ _ h=>h⟩ k2 (fun _ _=>rfl)),fun b hb=>?_⟩;rintro(hs|⟨v2,h5,h4⟩)
   ·exact k3 b hb hs
   ·exact e' (h2.inj i n ob _ v1 v2 b (by rw[ho i e'];exact hi0) hl k1 h5 hb h4)
  ·intro i j ob ob' u u' b hi hj hu hu' hb hb';have hi0:heap i=.live ob:=hi;have hj0:heap j=.live ob':=hj;have ei:i≠n:=fun e'=>by rw[e',hn]at hi0;cases hi0
   have ej:j≠n:=fun e'=>by rw[e',hn]at hj0;cases hj0
   rw[zdQ (by simp[ei])]at hu;rw[zdQ (by simp[ej])]at hu';exact h2.inj i j ob ob' u u' b (by rw[ho i ei];exact hi0) (by rw[ho j ej];exact hj0) hu hu' hb hb'
 have h0:=h w0 A S m heap w ev hm hR hrd;unfold Out at h0⊢;generalize (execOp ev o).run P w=res at h0⊢;cases res with
 |halt x w'=>exact h0
 |ok nx w'=>
  cases nx with
  |value v=>exact key v w' h0
  |skip=>exact key undef w' h0
  |enter f args=>exact h0.mono fun e w'' ⟨v,he,hk⟩=>⟨v,he,key v w'' hk⟩
  |_=>exact h0
theorem fn_nrow{P:Program}{f:FuncId}{args:List AV}{y:PV}{e:TypeId}{size:Nat}(h:Fn P f args (.tup [qm,.p y]) []):Fn P f args (.tup [.row 0,.p y]) [(0,.row e size 0 [])]:=by
 intro w A us hA hG hu;refine(h w A us hA hG hu).mono fun en w' ⟨v,he,S',m',h1,h2⟩=>⟨v,he,S',fun o=>bif Nat.beq o 0 then some (.slice none 0 0)else none,?_,?_⟩
 ·simp only[Rep,RepL,PRep]at h1⊢;obtain⟨ts,rfl,u0,_,rfl,⟨rfl,_⟩,u1,_,rfl,k1,rfl⟩:=h1;exact⟨_,rfl,_,_,rfl,⟨rfl,none,0,0,rfl⟩,_,_,rfl,k1,rfl⟩
 ·refine⟨h2.bel,h2.sA,h2.sW,fun o ho=>?_,fun o ob ho=>?_,fun o o' ob ob' v v' b ho ho' hv hv' hb hb'=>?_,h2.gl⟩
  ·by_cases e:o=0
   ·subst e;cases ho
   ·simp only[nbeq e,cond_false]
  ·by_cases e:o=0
   ·subst e;cases ho;exact⟨_,rfl,⟨[],by simp only[PRepL],qG,.inl ⟨rfl,rfl⟩⟩,fun b hb=>by cases hb⟩
   ·simp only[zcT,nbeq e,cond_false]at ho;cases ho
  ·by_cases e:o=0
   ·subst e;cases hv;cases hb
   ·simp only[nbeq e,cond_false]at hv;cases hv
end Go.Proofs.YtdiljgkijgiboaaGreatDoor
