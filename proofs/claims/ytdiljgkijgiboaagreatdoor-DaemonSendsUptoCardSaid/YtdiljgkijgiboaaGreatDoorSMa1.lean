/- Used. -/
import Derived.Test.YtdiljgkijgiboaaGreatDoorSLib
import Derived.StillTail
import Derived.Deep.MidRow
import Derived.Maps.AppendAt
import Derived.Lib.ItoaNum
set_option linter.all false
namespace Go.Proofs.YtdiljgkijgiboaaGreatDoor
open Go.RowKit Go.Sort
inductive PV where
 |v (x:Value)
 |sl (n size:Nat) (cs:List PV)
 |pt (cs:List PV)
inductive AV where
 |p (x:PV)
 |agg (cs:List AV)
 |tup (vs:List AV)
 |ptr (cs:List PV)
 |ref (o off:Nat)
 |row (o:Nat)
 |psl (o off n size:Nat)
 |pslc (o n:Nat)
 |fn (f:FuncId) (cs:List AV)
 |mb (b:Bool) (x:AV)
 |sat (p:Value→Bool)
 |mp (o:Nat)
 |any
inductive AObj where
 |box (ty:TypeId) (cs:List AV)
 |row (e:TypeId) (size n:Nat) (cs:List PV)
 |map (es:List (Value×Value))
 |rowA (e:TypeId) (size n:Nat) (c:Option Nat) (cs:List AV)
inductive Slot where
 |un
 |dead
 |live (ob:AObj)
structure St where
 tmps:Nat→AV
 heap:Nat→Slot
mutual
def PRep(S:Nat→Prop)(w:World):PV→Value→Prop
 | .v x,u=>u=x∧x.oneCell'=true
 | .sl n size cs,u=>∃a cap vs,u=.slice a n cap∧n≤cap∧cs.length=n*size∧PRepL S w cs vs∧(n=0∨∃b off,a=some ⟨b,off,none⟩∧S b∧w.rangeAt b off vs)
 | .pt cs,u=>∃b off vs,u=.pointer (some ⟨b,off,none⟩)∧S b∧PRepL S w cs vs∧w.rangeAt b off vs
def PRepL(S:Nat→Prop)(w:World):List PV→List Value→Prop
 | [],vs=>vs=[]
 |c::cs,vs=>∃u us,vs=u::us∧PRep S w c u∧PRepL S w cs us
end
def blk:Value→Option Nat
 | .pointer (some a)=>some a.block
 | .slice (some a) _ _=>some a.block
 | .map (some r)=>some r
 |_=>none
mutual
def Rep(S:Nat→Prop)(m:Nat→Option Value)(w:World):AV→Value→Prop
 | .p x,u=>PRep S w x u
 | .agg cs,u=>∃us,u=.agg us.toArray∧RepL S m w cs us∧∀x∈us,x.oneCell'=true
 | .tup cs,u=>∃us,u=.tuple us.toArray∧RepL S m w cs us
 | .ptr cs,u=>∃b off vs,u=.pointer (some ⟨b,off,none⟩)∧S b∧PRepL S w cs vs∧w.rangeAt b off vs
 | .ref o off,u=>∃b v0,m o=some v0∧blk v0=some b∧u=.pointer (some ⟨b,off,none⟩)
 | .row o,u=>m o=some u∧∃a n c,u=.slice a n c
 | .psl o off n _,u=>∃a cap,u=.slice a n cap∧n≤cap∧(n=0∨∃b v0,m o=some v0∧blk v0=some b∧a=some ⟨b,off,none⟩)
 | .pslc o n,u=>∃a n0 c,m o=some (.slice a n0 c)∧u=.slice a n c
 | .fn f cs,u=>∃us,u=.func (.func f) #[] us.toArray∧RepL S m w cs us
 | .mb b x,u=>(b=true→Rep S m w x u)∧(b=false→u=undef)
 | .sat sp,u=>sp u=true∧u.oneCell'=true
 | .mp o,u=>m o=some u∧∃r,u=.map (some r)
 | .any,_=>True
def RepL(S:Nat→Prop)(m:Nat→Option Value)(w:World):List AV→List Value→Prop
 | [],vs=>vs=[]
 |c::cs,vs=>∃u us,vs=u::us∧Rep S m w c u∧RepL S m w cs us
end
def noFz(fz:Nat×Nat)(n:Nat):Prop:=fz.1=fz.2∨n≤fz.1
theorem noFz.cells{fz:Nat×Nat}{n:Nat}(h:noFz fz n):∀i,i<n→¬(fz.1≤i∧i<fz.2):=fun i hi hh=>by
 rcases h with h|h<;>omega
def zkj(w:World)(B:Nat)(e:TypeId)(size:Nat)(v:Value)(n:Nat)(us:List Value):Prop:=
 us.length=n*size∧((v=.slice none 0 0∧n=0)∨
  ∃g cap cur fz,v=.slice (some ⟨g,0,none⟩) n cap∧B≤g∧w.heap[g]?=some (.cells cur e fz)∧noFz fz cur.size∧n≤cap∧cap≤maxLen∧cur.size=cap*size∧cur.toList.take (n*size)=us)
def ORep(B:Nat)(S:Nat→Prop)(m:Nat→Option Value)(w:World):AObj→Value→Prop
 | .box ty cs,v=>∃b us,v=.pointer (some ⟨b,0,none⟩)∧B≤b∧RepL S m w cs us∧(∀x∈us,x.oneCell'=true)∧w.heap[b]?=some (.cells us.toArray ty (0,0))
 | .row e size n cs,v=>∃us,PRepL S w cs us∧zkj w B e size v n us
 | .map es,v=>∃r arr ck,v=.map (some r)∧B≤r∧w.heap[r]?=some (.map arr ck)∧(arr.toList.map fun e=>(e.key,e.val))=es
 | .rowA e size n c cs,v=>∃us,RepL S m w cs us∧zkj w B e size v n us∧∀k,c=some k→∃a,v=.slice a n k
def gErr:List Nat:=[1,2]
def gTab:List (Nat×Array Value):=
 (3,(Lib.pow10Tab.map fun z=>Value.int .u64 z).toArray)::
 []
def GI(w:World):Prop:=
 (∀g∈gErr,∃ev t fz,w.heap[g]?=some (.cells #[ev] t fz)∧(ev=.nilIface∨∃te pe,ev=.iface te pe))∧∀p∈gTab,∃t fz,w.heap[p.1]?=some (.cells p.2 t fz)
theorem GI.below{w w':World}(k:GI w)(h:Below w.heap.size w w'):GI w':=by
 refine⟨fun g hg=>?_,fun p hp=>?_⟩
 ·obtain⟨ev,t,fz,h1,h2⟩:=k.1 g hg;exact⟨ev,t,fz,by rw[h.block g (qbK.1 h1).1];exact h1,h2⟩
 ·obtain⟨t,fz,h1⟩:=k.2 p hp;exact⟨t,fz,by rw[h.block p.1 (qbK.1 h1).1];exact h1⟩
theorem GI.nil(h1:gErr=[])(h2:gTab=[])(w:World):GI w:=⟨fun g hg=>(by rw[h1]at hg;cases hg),fun p hp=>(by rw[h2]at hp;cases hp)⟩
theorem zic{P:Program}{w:World}{name:String}{g:Nat}{cs:Array Value}(hg:P.globalNamed name=some g)(h:w.var? P name=some cs):∃t fz,w.heap[g]?=some (.cells cs t fz):=by
 unfold World.var? at h;rw[hg]at h;simp only[qcX]at h;cases hq:w.heap[g]? with
 |none=>rw[hq]at h;cases h
 |some o=>
  rw[hq]at h;cases o with
  |cells c t fz=>simp only[Option.some.injEq]at h;subst h;exact⟨t,fz,rfl⟩
  |_=>cases h
theorem var_of_heap{P:Program}{w:World}{name:String}{g:Nat}{cs:Array Value}{t:TypeId}{fz:Nat×Nat}(hg:P.globalNamed name=some g)(h:w.heap[g]?=some (.cells cs t fz)):w.var? P name=some cs:=by
 unfold World.var?;rw[hg];simp only[qcX,h]
structure Mem(w0:World)(A:Nat→Prop)(S:Nat→Prop)(m:Nat→Option Value)(heap:Nat→Slot)(w:World):Prop where
 bel:Below w0.heap.size w0 w
 sA:∀b,S b→A b∨w0.heap.size≤b
 sW:∀b,S b→b<w.heap.size
 un:∀o,heap o=.un→m o=none
 live:∀o ob,heap o=.live ob→∃v,m o=some v∧ORep w0.heap.size S m w ob v∧∀b,blk v=some b→¬S b
 inj:∀o o' ob ob' v v' b,heap o=.live ob→heap o'=.live ob'→m o=some v→m o'=some v'→blk v=some b→blk v'=some b→o=o'
 gl:GI w0
structure Grow(S:Nat→Prop)(m:Nat→Option Value)(w:World)(S':Nat→Prop)(m':Nat→Option Value)(w':World):Prop where
 s:∀b,S b→S' b
 w:∀b,S b→w'.heap[b]?=w.heap[b]?
 m:∀o v,m o=some v→m' o=some v
theorem Grow.refl(S:Nat→Prop)(m:Nat→Option Value)(w:World):Grow S m w S m w:=⟨fun _ h=>h,fun _ _=>rfl,fun _ _ h=>h⟩
theorem Grow.trans{S S' S'':Nat→Prop}{m m' m'':Nat→Option Value}{w w' w'':World}(h:Grow S m w S' m' w')(k:Grow S' m' w' S'' m'' w''):Grow S m w S'' m'' w'':=
 ⟨fun b hb=>k.s b (h.s b hb),fun b hb=>(k.w b (h.s b hb)).trans (h.w b hb),fun o v ho=>k.m o v (h.m o v ho)⟩
theorem zeP{w w':World}{b off:Nat}{vs:List Value}(h:w'.heap[b]?=w.heap[b]?)(k:w.rangeAt b off vs):w'.rangeAt b off vs:=
 fun j v hj=>(World.cell?_of_block (w:=w) (a:=⟨b,off+j,none⟩) h).trans (k j v hj)
section
variable {S S':Nat→Prop}{m m':Nat→Option Value}{w w':World}
mutual
theorem PRep.mono(hs:∀b,S b→S' b)(hw:∀b,S b→w'.heap[b]?=w.heap[b]?):∀(x:PV) (u:Value),PRep S w x u→PRep S' w' x u
 | .v x,u,h=>by simpa[PRep]using h
 | .sl n size cs,u,h=>by
  simp only[PRep]at h⊢;obtain⟨a,cap,vs,h1,h2,h3,h4,h5⟩:=h;refine⟨a,cap,vs,h1,h2,h3,PRepL.mono hs hw cs vs h4,?_⟩;rcases h5 with h5|⟨b,off,h6,h7,h8⟩
  ·exact .inl h5
  ·exact .inr ⟨b,off,h6,hs b h7,zeP (hw b h7) h8⟩
 | .pt cs,u,h=>by
  simp only[PRep]at h⊢;obtain⟨b,off,vs,h1,h2,h3,h4⟩:=h;exact⟨b,off,vs,h1,hs b h2,PRepL.mono hs hw cs vs h3,zeP (hw b h2) h4⟩
theorem PRepL.mono(hs:∀b,S b→S' b)(hw:∀b,S b→w'.heap[b]?=w.heap[b]?):∀(x:List PV) (u:List Value),PRepL S w x u→PRepL S' w' x u
 | [],u,h=>by simpa[PRepL]using h
 |c::cs,u,h=>by
  simp only[PRepL]at h⊢;obtain⟨u,us,h1,h2,h3⟩:=h;exact⟨u,us,h1,PRep.mono hs hw c u h2,PRepL.mono hs hw cs us h3⟩
end
mutual
theorem Rep.mono(g:Grow S m w S' m' w'):∀(x:AV) (u:Value),Rep S m w x u→Rep S' m' w' x u
 | .p x,u,h=>by simp only[Rep]at h⊢;exact PRep.mono g.s g.w x u h
 | .agg cs,u,h=>by
  simp only[Rep]at h⊢;obtain⟨us,h1,h2,h3⟩:=h;exact⟨us,h1,RepL.mono g cs us h2,h3⟩
 | .tup cs,u,h=>by
  simp only[Rep]at h⊢;obtain⟨us,h1,h2⟩:=h;exact⟨us,h1,RepL.mono g cs us h2⟩
 | .ptr cs,u,h=>by
  simp only[Rep]at h⊢;obtain⟨b,off,vs,h1,h2,h3,h4⟩:=h;exact⟨b,off,vs,h1,g.s b h2,PRepL.mono g.s g.w cs vs h3,zeP (g.w b h2) h4⟩
 | .ref o off,u,h=>by
  simp only[Rep]at h⊢;obtain⟨b,v0,h1,h2⟩:=h;exact⟨b,v0,g.m _ _ h1,h2⟩
 | .row o,u,h=>by simp only[Rep]at h⊢;exact⟨g.m _ _ h.1,h.2⟩
 | .psl o off n _,u,h=>by
  simp only[Rep]at h⊢;obtain⟨a,cap,h1,h2,h3⟩:=h;refine⟨a,cap,h1,h2,?_⟩;rcases h3 with h3|⟨b,v0,h4,h5,h6⟩
  ·exact .inl h3
  ·exact .inr ⟨b,v0,g.m _ _ h4,h5,h6⟩
 | .pslc o n,u,h=>by
  simp only[Rep]at h⊢;obtain⟨a,n0,c,h1,h2⟩:=h;exact⟨a,n0,c,g.m _ _ h1,h2⟩
 | .fn f cs,u,h=>by
  simp only[Rep]at h⊢;obtain⟨us,h1,h2⟩:=h;exact⟨us,h1,RepL.mono g cs us h2⟩
 | .mb b x,u,h=>by
  simp only[Rep]at h⊢;exact⟨fun hb=>Rep.mono g x u (h.1 hb),h.2⟩
 | .sat sp,u,h=>by simpa only[Rep]using h
 | .mp o,u,h=>by simp only[Rep]at h⊢;exact⟨g.m _ _ h.1,h.2⟩
 | .any,u,h=>by simp only[Rep]
theorem RepL.mono(g:Grow S m w S' m' w'):∀(x:List AV) (u:List Value),RepL S m w x u→RepL S' m' w' x u
 | [],u,h=>by simpa[RepL]using h
 |c::cs,u,h=>by
  simp only[RepL]at h⊢;obtain⟨u,us,h1,h2,h3⟩:=h;exact⟨u,us,h1,Rep.mono g c u h2,RepL.mono g cs us h3⟩
end
theorem PRepL.length:∀{cs:List PV} {us:List Value},PRepL S w cs us→us.length=cs.length
 | [],us,h=>by simp only[PRepL]at h;simp[h]
 |c::cs,us,h=>by
  simp only[PRepL]at h;obtain⟨u,us,rfl,_,h3⟩:=h;simp[h3.length]
theorem RepL.length:∀{cs:List AV} {us:List Value},RepL S m w cs us→us.length=cs.length
 | [],us,h=>by simp only[RepL]at h;simp[h]
 |c::cs,us,h=>by
  simp only[RepL]at h;obtain⟨u,us,rfl,_,h3⟩:=h;simp[h3.length]
theorem PRep.one{x:PV}{u:Value}(h:PRep S w x u):u.oneCell'=true:=by
 cases x with
 |v x=>simp only[PRep]at h;rw[h.1];exact h.2
 |sl n size cs=>simp only[PRep]at h;obtain⟨a,cap,vs,h1,_⟩:=h;rw[h1];rfl
 |pt cs=>simp only[PRep]at h;obtain⟨b,off,vs,h1,_⟩:=h;rw[h1];rfl
theorem PRepL.one:∀{cs:List PV} {us:List Value},PRepL S w cs us→∀x∈us,x.oneCell'=true
 | [],us,h=>by simp only[PRepL]at h;simp[h]
 |c::cs,us,h=>by
  simp only[PRepL]at h;obtain⟨u,us,rfl,h2,h3⟩:=h;intro x hx;rcases qbA.1 hx with rfl|hx
  ·exact h2.one
  ·exact h3.one x hx
theorem PRepL.at_:∀{cs:List PV} {us:List Value} {k:Nat} {c:PV},PRepL S w cs us→cs[k]?=some c→∃u,us[k]?=some u∧PRep S w c u
 | [],us,k,c,h,hk=>by simp at hk
 |c::cs,us,0,d,h,hk=>by
  simp only[PRepL]at h;obtain⟨u,us,rfl,h2,h3⟩:=h;simp at hk;subst hk;exact⟨u,qG,h2⟩
 |c::cs,us,k+1,d,h,hk=>by
  simp only[PRepL]at h;obtain⟨u,us,rfl,h2,h3⟩:=h;simp at hk;obtain⟨v,h4,h5⟩:=h3.at_ hk;exact⟨v,by simpa using h4,h5⟩
theorem RepL.at_:∀{cs:List AV} {us:List Value} {k:Nat} {c:AV},RepL S m w cs us→cs[k]?=some c→∃u,us[k]?=some u∧Rep S m w c u
 | [],us,k,c,h,hk=>by simp at hk
 |c::cs,us,0,d,h,hk=>by
  simp only[RepL]at h;obtain⟨u,us,rfl,h2,h3⟩:=h;simp at hk;subst hk;exact⟨u,qG,h2⟩
 |c::cs,us,k+1,d,h,hk=>by
  simp only[RepL]at h;obtain⟨u,us,rfl,h2,h3⟩:=h;simp at hk;obtain⟨v,h4,h5⟩:=h3.at_ hk;exact⟨v,by simpa using h4,h5⟩
theorem PRepL.drop:∀{cs:List PV} {us:List Value} (k:Nat),PRepL S w cs us→PRepL S w (cs.drop k) (us.drop k)
 | [],us,k,h=>by simp only[PRepL]at h;simp[h,PRepL]
 |c::cs,us,0,h=>h
 |c::cs,us,k+1,h=>by
  simp only[PRepL]at h;obtain⟨u,us,rfl,h2,h3⟩:=h;simpa using h3.drop k
theorem PRepL.take:∀{cs:List PV} {us:List Value} (k:Nat),PRepL S w cs us→PRepL S w (cs.take k) (us.take k)
 | [],us,k,h=>by simp only[PRepL]at h;simp[h,PRepL]
 |c::cs,us,0,h=>by simp[PRepL]
 |c::cs,us,k+1,h=>by
  simp only[PRepL]at h;obtain⟨u,us,rfl,h2,h3⟩:=h;simp only[qb5,PRepL];exact⟨u,_,rfl,h2,h3.take k⟩
theorem PRepL.append:∀{cs ds:List PV} {us vs:List Value},PRepL S w cs us→PRepL S w ds vs→PRepL S w (cs++ds) (us++vs)
 | [],ds,us,vs,h,k=>by simp only[PRepL]at h;simpa[h]using k
 |c::cs,ds,us,vs,h,k=>by
  simp only[PRepL]at h;obtain⟨u,us,rfl,h2,h3⟩:=h;simp only[qbW,PRepL];exact⟨u,_,rfl,h2,h3.append k⟩
theorem PRepL.set:∀{cs:List PV} {us:List Value} (k:Nat) {c:PV} {u:Value},PRepL S w cs us→PRep S w c u→PRepL S w (cs.set k c) (us.set k u)
 | [],us,k,c,u,h,_=>by simp only[PRepL]at h;simp[h,PRepL]
 |c::cs,us,0,d,v,h,hd=>by
  simp only[PRepL]at h;obtain⟨u,us,rfl,h2,h3⟩:=h;simp only[qcn,PRepL];exact⟨v,_,rfl,hd,h3⟩
 |c::cs,us,k+1,d,v,h,hd=>by
  simp only[PRepL]at h;obtain⟨u,us,rfl,h2,h3⟩:=h;simp only[List.set_cons_succ,PRepL];exact⟨u,_,rfl,h2,h3.set k hd⟩
theorem RepL.set:∀{cs:List AV} {us:List Value} (k:Nat) {c:AV} {u:Value},RepL S m w cs us→Rep S m w c u→RepL S m w (cs.set k c) (us.set k u)
 | [],us,k,c,u,h,_=>by simp only[RepL]at h;simp[h,RepL]
 |c::cs,us,0,d,v,h,hd=>by
  simp only[RepL]at h;obtain⟨u,us,rfl,h2,h3⟩:=h;simp only[qcn,RepL];exact⟨v,_,rfl,hd,h3⟩
 |c::cs,us,k+1,d,v,h,hd=>by
  simp only[RepL]at h;obtain⟨u,us,rfl,h2,h3⟩:=h;simp only[List.set_cons_succ,RepL];exact⟨u,_,rfl,h2,h3.set k hd⟩
theorem RepL.drop:∀{cs:List AV} {us:List Value} (k:Nat),RepL S m w cs us→RepL S m w (cs.drop k) (us.drop k)
 | [],us,k,h=>by simp only[RepL]at h;simp[h,RepL]
 |c::cs,us,0,h=>h
 |c::cs,us,k+1,h=>by
  simp only[RepL]at h;obtain⟨u,us,rfl,h2,h3⟩:=h;simpa using h3.drop k
theorem RepL.take:∀{cs:List AV} {us:List Value} (k:Nat),RepL S m w cs us→RepL S m w (cs.take k) (us.take k)
 | [],us,k,h=>by simp only[RepL]at h;simp[h,RepL]
 |c::cs,us,0,h=>by simp[RepL]
 |c::cs,us,k+1,h=>by
  simp only[RepL]at h;obtain⟨u,us,rfl,h2,h3⟩:=h;simp only[qb5,RepL];exact⟨u,_,rfl,h2,h3.take k⟩
theorem RepL.append:∀{cs ds:List AV} {us vs:List Value},RepL S m w cs us→RepL S m w ds vs→RepL S m w (cs++ds) (us++vs)
 | [],ds,us,vs,h,k=>by simp only[RepL]at h;simpa[h]using k
 |c::cs,ds,us,vs,h,k=>by
  simp only[RepL]at h;obtain⟨u,us,rfl,h2,h3⟩:=h;simp only[qbW,RepL];exact⟨u,_,rfl,h2,h3.append k⟩
theorem PRepL.repL:∀{cs:List PV} {us:List Value},PRepL S w cs us→RepL S m w (cs.map AV.p) us
 | [],us,h=>by simpa[PRepL,RepL]using h
 |c::cs,us,h=>by
  simp only[PRepL]at h;obtain⟨u,us,rfl,h2,h3⟩:=h;simp only[qbu,RepL,Rep];exact⟨u,us,rfl,h2,h3.repL⟩
theorem zcQ:∀{cs:List PV} {us:List Value},RepL S m w (cs.map AV.p) us→PRepL S w cs us
 | [],us,h=>by simpa[PRepL,RepL]using h
 |c::cs,us,h=>by
  simp only[qbu,RepL,Rep]at h;obtain⟨u,us,rfl,h2,h3⟩:=h;simp only[PRepL];exact⟨u,us,rfl,h2,zcQ h3⟩
theorem ORep.mono{B:Nat}(g:Grow S m w S' m' w'){ob:AObj}{v:Value}(h:ORep B S m w ob v)(hb:∀b,blk v=some b→w'.heap[b]?=w.heap[b]?):ORep B S' m' w' ob v:=by
 cases ob with
 |box ty cs=>
  obtain⟨b,us,rfl,h2,h3,h4,h5⟩:=h;exact⟨b,us,rfl,h2,RepL.mono g _ _ h3,h4,(hb b rfl).trans h5⟩
 |row e size n cs=>
  obtain⟨us,h1,h2,h3⟩:=h;refine⟨us,PRepL.mono g.s g.w _ _ h1,h2,?_⟩;exact jah
 |map es=>
  obtain⟨r,arr,ck,rfl,h2,h3,h4⟩:=h;exact⟨r,arr,ck,rfl,h2,(hb r rfl).trans h3,h4⟩
 |rowA e size n c cs=>
  obtain⟨us,h1,⟨h2,h3⟩,h4⟩:=h;refine⟨us,RepL.mono g _ _ h1,⟨h2,?_⟩,h4⟩;exact jah
theorem ORep.lt{B:Nat}{ob:AObj}{v:Value}(h:ORep B S m w ob v){b:Nat}(hb:blk v=some b):B≤b∧b<w.heap.size:=by
 cases ob with
 |box ty cs=>
  obtain⟨b',us,rfl,h2,h3,h4,h5⟩:=h;obtain rfl:b'=b:=qav;exact⟨h2,(qbK.1 h5).1⟩
 |row e size n cs=>
  obtain⟨us,h1,h2,h3⟩:=h;exact jaf
 |map es=>
  obtain⟨r,arr,ck,rfl,h2,h3,h4⟩:=h;obtain rfl:r=b:=qav;exact⟨h2,(qbK.1 h3).1⟩
 |rowA e size n c cs=>
  obtain⟨us,h1,⟨h2,h3⟩,_⟩:=h;exact jaf
end
theorem nbeq{a b:Nat}(h:a≠b):Nat.beq a b=false:=Bool.eq_false_iff.2 fun e=>h (qbn e)
def allOne(cs:Array Value):Bool:=cs.toList.all fun x=>x.oneCell'
def zcd:Value→AV
 | .agg cs=>if allOne cs then .agg (cs.toList.map fun x=>.p (.v x))else .any
 | .tuple _=>.any
 |x=>.p (.v x)
def St.ev(st:St):Operand→AV
 | .tmp t=>st.tmps t
 | .const v=>zcd v
 | .func f=>.fn f []
 | .global _=>.any
def St.put(st:St)(d:Option Tmp)(r:AV):St:=
 match d with
 |none=>st
 |some d=>{st with tmps:=fun t=>bif Nat.beq t d then r else st.tmps t}
def updL(h:Nat→Slot):List (Nat×Slot)→Nat→Slot
 | [],o=>h o
 |(n,s)::l,o=>bif Nat.beq o n then s else updL h l o
def St.upd(st:St)(wrs:List (Nat×Slot)):St:={st with heap:=updL st.heap wrs}
def Out(P:Program)(s:Sem Next)(w:World)(K:Value→World→Prop):Prop:=
 match s.run P w with
 | .ok (.value v) w'=>K v w'
 | .ok .skip w'=>K undef w'
 | .ok (.enter f args) w'=>Calls P f args w' fun e w''=>∃v,e=.returned v∧K v w''
 |_=>False
def AOp(P:Program)(o:Oper)(xs:List AV)(rds wrs:List (Nat×Slot))(r:AV):Prop:=
 ∀(w0:World) (A S:Nat→Prop) (m:Nat→Option Value) (heap:Nat→Slot) (w:World) (ev:Operand→Value),Mem w0 A S m heap w→
  RepL S m w xs (o.op.operands.toList.map ev)→(∀p∈rds,heap p.1=p.2)→
  Out P (execOp ev o) w fun v w'=>∃S' m',Rep S' m' w' r v∧Mem w0 A S' m' (updL heap wrs) w'∧Grow S m w S' m' w'
structure Ctx where
 A:Nat→Prop
 J:(Nat→Prop)→(Nat→Option Value)→World→Prop
 up:∀(S:Nat→Prop) (m:Nat→Option Value) (w:World) (S':Nat→Prop) (m':Nat→Option Value) (w':World),Grow S m w S' m' w'→J S m w→J S' m' w'
structure Ctx1 where
 A:Nat→Prop
 K:(Nat→Prop)→World→Prop
 up:∀(S:Nat→Prop) (m:Nat→Option Value) (w:World) (S':Nat→Prop) (m':Nat→Option Value) (w':World),Grow S m w S' m' w'→K S w→K S' w'
def ctx0(A:Ctx1):Ctx:=⟨A.A,fun S _ w=>A.K S w,fun S m w S' m' w' g h=>A.up S m w S' m' w' g h⟩
def ctx1(A:Nat→Prop):Ctx1:=⟨A,fun _ _=>True,fun _ _ _ _ _ _ _ _=>trivial⟩
structure Sim(w0:World)(A:Ctx)(nt:Nat)(st:St)(a:Act)(w:World):Prop where
 mem:∃S m,Mem w0 A.A S m st.heap w∧A.J S m w∧∀t,Rep S m w (st.tmps t) (a.tmps.getD t undef)
 size:a.tmps.size=nt
 defers:a.defers=[]
theorem zeE(S:Nat→Prop)(m:Nat→Option Value)(w:World)(v:Value):Rep S m w (zcd v) v:=by
 cases v
 case agg cs=>
  simp only[zcd]
  split
  ·rename_i h;have h':∀x∈cs.toList,x.oneCell'=true:=by simpa only[allOne,qbX]using h
   simp only[Rep];refine⟨cs.toList,qG,?_,h'⟩;clear h
   revert h'
   generalize cs.toList=l;intro h'
   induction l with
   |nil=>simp[RepL]
   |cons x l ih=>
    simp only[qbu,RepL,Rep,PRep];exact⟨x,l,rfl,⟨rfl,h' x qG⟩,ih fun y hy=>h' y qa3⟩
  ·simp only[Rep]
 all_goals simp only[zcd,Rep,PRep,Value.oneCell',and_self]
theorem ev_rep{S:Nat→Prop}{m:Nat→Option Value}{w:World}{st:St}{a:Act}(h:∀t,Rep S m w (st.tmps t) (a.tmps.getD t undef)):∀x:Operand,Rep S m w (st.ev x) (a.eval x)
 | .tmp t=>h t
 | .const v=>zeE _ _ _ v
 | .func f=>by simp[St.ev,Act.eval,Rep,RepL]
 | .global g=>by simp[St.ev,Rep]
theorem evs_rep{S:Nat→Prop}{m:Nat→Option Value}{w:World}{st:St}{a:Act}(h:∀t,Rep S m w (st.tmps t) (a.tmps.getD t undef)):∀l:List Operand,RepL S m w (l.map st.ev) (l.map a.eval)
 | []=>by simp[RepL]
 |x::l=>by
  simp only[qbu,RepL];exact⟨_,_,rfl,ev_rep h x,evs_rep h l⟩
def zaJ(ops:Array Oper)(o:Oper)(st:St):Option Bool:=
 match o.guard with
 |none=>some true
 |some (j,want)=>match(ops[j]?).bind (·.dst)with
  |some d=>match st.tmps d with
   | .p (.v (.bool c))=>some (c==want)
   | .mb b (.p (.v (.bool c)))=>some (b&&(c==want))
   |_=>none
  |none=>none
abbrev Foot:=List Nat×List Nat
inductive OkStep(P:Program)(ops:Array Oper)(o:Oper)(st:St):Foot→St→Prop
 |run (rds wrs:List (Nat×Slot)) (r:AV):zaJ ops o st=some true→AOp P o (o.op.operands.toList.map st.ev) rds wrs r→(∀p∈rds,st.heap p.1=p.2)→
  OkStep P ops o st (rds.map Prod.fst,wrs.map Prod.fst) ((st.upd wrs).put o.dst r)
 |skip (f:Foot) (r:AV):zaJ ops o st=some false→(∀S m w,Rep S m w r undef)→OkStep P ops o st f (st.put o.dst r)
theorem Act.put_defers_eq(a:Act)(d:Option Tmp)(v:Value):(a.put d v).defers=a.defers:=by cases d<;>rfl
theorem Act.put_size(a:Act)(d:Option Tmp)(v:Value):(a.put d v).tmps.size=a.tmps.size:=by cases d<;>simp[Act.put]
theorem zes(st:St)(d:Option Tmp)(r:AV):(st.put d r).heap=st.heap:=by cases d<;>rfl
theorem Sim.put{w0:World}{A:Ctx}{nt:Nat}{st:St}{a:Act}{w w':World}{S S':Nat→Prop}{m m':Nat→Option Value}{wrs:List (Nat×Slot)}{d:Option Tmp}{r:AV}{v:Value}
 (hr:Rep S' m' w' r v) (hm:Mem w0 A.A S' m' (updL st.heap wrs) w') (g:Grow S m w S' m' w') (hj:A.J S m w) (ht:∀t,Rep S m w (st.tmps t) (a.tmps.getD t undef)) (hs:a.tmps.size=nt) (hd:a.defers=[])
 (hlt:∀t,d=some t→t<nt):Sim w0 A nt ((st.upd wrs).put d r) (a.put d v) w':=by
 refine⟨⟨S',m',by rw[zes];exact hm,A.up _ _ _ _ _ _ g hj,fun t=>?_⟩,by rw[Act.put_size];exact hs,by rw[Act.put_defers_eq];exact hd⟩;cases d with
 |none=>exact Rep.mono g _ _ (ht t)
 |some d=>
  have hd':=hlt d rfl
  by_cases htd:t=d
  ·subst htd;simp only[St.put,qcq,cond_true,Act.put];have hl:t<a.tmps.size:=by rw[hs];exact hd'
   simpa[hl]using hr
  ·have hb:Nat.beq t d=false:=nbeq htd;simp only[St.put,hb,cond_false,Act.put,St.upd];have:=Rep.mono g _ _ (ht t);simpa[qcs (Ne.symm htd)]using this
theorem wanted_of{ops:Array Oper}{o:Oper}{st:St}{a:Act}{w:World}{S:Nat→Prop}{m:Nat→Option Value}{b:Bool}(h:zaJ ops o st=some b)
 (ht:∀t,Rep S m w (st.tmps t) (a.tmps.getD t undef)):Region.wanted o (yielded ops a.tmps)=b:=by
 unfold zaJ at h;unfold Region.wanted;cases hg:o.guard with
 |none=>simp only[hg]at h⊢;exact(Option.some.inj h)
 |some jw=>
  obtain⟨j,want⟩:=jw;simp only[hg]at h⊢;unfold yielded;cases hd:(ops[j]?).bind (·.dst)with
  |none=>simp only[hd]at h;cases h
  |some d=>
   simp only[hd]at h;have:=ht d
   split at h
   ·rename_i c hc;rw[hc]at this;simp only[Rep,PRep]at this
    have h2:a.tmps[d]?=some (.bool c):=by
     have h3:=this.1;exact jag
    simp only[qcX,h2];have:=Option.some.inj h;rw[←this];cases c<;>cases want<;>rfl
   ·rename_i b' c hc;rw[hc]at this;simp only[Rep,PRep]at this;have hbb:=Option.some.inj h;cases b' with
    |true=>
     have h2:a.tmps[d]?=some (.bool c):=by
      have h3:=(this.1 rfl).1;exact jag
     simp only[qcX,h2];rw[←hbb];cases c<;>cases want<;>rfl
    |false=>
     have h3:=this.2 rfl;rw[←hbb];rw[qcm]at h3;simp only[qcX];cases h4:a.tmps[d]? with
     |none=>rfl
     |some x=>rw[h4]at h3;simp at h3;rw[h3];rfl
   ·cases h
theorem OkStep.sound{P:Program}{ops:Array Oper}{o:Oper}{st st1:St}{f:Foot}(h:OkStep P ops o st f st1){w0:World}{A:Ctx}{nt:Nat}{a:Act}{w:World}(hs:Sim w0 A nt st a w)
 (hlt:∀t,o.dst=some t→t<nt) {i:Nat} (hi:ops[i]?=some o) {Q:Exit→Act→World→Prop} {K:Act→World→Prop} (hK:∀a' w',Sim w0 A nt st1 a' w'→K a' w'):wpOp P ops Q i K a w:=by
 obtain⟨⟨S,m,hm,hj,ht⟩,hsz,hdf⟩:=hs;unfold wpOp;simp only[hi];cases h with
 |run rds wrs r hw hop hrd=>
  rw[wanted_of hw ht];simp only[if_true];refine .inl ?_;have:=hop w0 A.A S m st.heap w a.eval hm (evs_rep ht _) hrd;unfold Out at this;unfold Oper.wp;generalize (execOp a.eval o).run P w=res at this;cases res with
  |halt x w'=>exact this.elim
  |ok n w'=>
   cases n<;>simp only[Oper.upon]at this⊢
   case value v=>
    obtain⟨S',m',h1,h2,h3⟩:=this;exact hK _ _ (Sim.put h1 h2 h3 hj ht hsz hdf hlt)
   case skip=>
    obtain⟨S',m',h1,h2,h3⟩:=this;exact hK _ _ (Sim.put h1 h2 h3 hj ht hsz hdf hlt)
   case enter f args=>
    refine this.mono fun e w'' he=>?_
    obtain⟨v,rfl,S',m',h1,h2,h3⟩:=he;exact hK _ _ (Sim.put h1 h2 h3 hj ht hsz hdf hlt)
   all_goals exact this.elim
 |skip f r hw hrr=>
  rw[wanted_of hw ht];simp only[qbJ,if_false];exact hK _ _ (Sim.put (wrs:=[]) (r:=r) (hrr _ _ _) hm (Grow.refl _ _ _) hj ht hsz hdf hlt)
def compat(f g:Foot):Bool:=f.2.all (fun n=> !g.1.contains n&& !g.2.contains n)&&g.2.all (fun n=> !f.1.contains n)
theorem zcg{h:Nat→Slot}:∀{l:List (Nat×Slot)} {o:Nat},o∉l.map Prod.fst→updL h l o=h o
 | [],_,_=>rfl
 |(n,s)::l,o,ho=>by
  simp only[qbu,qbA,not_or]at ho;have hb:Nat.beq o n=false:=nbeq ho.1;simp only[updL,hb,cond_false];exact zcg ho.2
theorem zjl{h k:Nat→Slot}:∀{l:List (Nat×Slot)} {o:Nat},o∈l.map Prod.fst→updL h l o=updL k l o
 | [],_,ho=>by simp at ho
 |(n,s)::l,o,ho=>by
  simp only[updL]
  by_cases hn:o=n
  ·subst hn;simp
  ·have hb:Nat.beq o n=false:=nbeq hn;simp only[qbu,qbA]at ho;simp only[hb,cond_false];exact zjl (ho.resolve_left hn)
theorem updL_comm{h:Nat→Slot}{l k:List (Nat×Slot)}(hd:∀n∈l.map Prod.fst,n∉k.map Prod.fst):updL (updL h l) k=updL (updL h k) l:=by
 funext o
 by_cases hk:o∈k.map Prod.fst
 ·have hl:o∉l.map Prod.fst:=fun hl=>hd o hl hk
  rw[zcg (l:=l) hl];exact zjl hk
 ·rw[zcg (l:=k) hk]
  by_cases hl:o∈l.map Prod.fst
  ·exact zjl hl
  ·rw[zcg hl,zcg hl,zcg hk]
theorem zhr(st:St){x y:Option Tmp}(r s:AV)(h:∀d,x=some d→y≠some d):(st.put x r).put y s=(st.put y s).put x r:=by
 cases x with
 |none=>rfl
 |some d=>
  cases y with
  |none=>rfl
  |some e=>
   have hne:d≠e:=fun he=>h d rfl (he▸rfl)
   simp only[St.put,St.mk.injEq,and_true]
   funext t
   by_cases h1:t=d
   ·subst h1;have hb:Nat.beq t e=false:=nbeq hne;simp[hb]
   ·have hb:Nat.beq t d=false:=nbeq h1;simp[hb]
theorem zjB(st:St)(d:Option Tmp)(r:AV)(l:List (Nat×Slot)):(st.put d r).upd l=(st.upd l).put d r:=by cases d<;>rfl
theorem zj2{ops:Array Oper}{o:Oper}{st st1:St}{d:Option Tmp}(ht:∀t,d≠some t→st1.tmps t=st.tmps t)(h:∀t,d=some t→t∉o.looksAt ops):
 o.op.operands.toList.map st1.ev=o.op.operands.toList.map st.ev:=by
 refine qcI fun x hx=>?_
 cases x with
 |tmp t=>
  refine ht t fun hd=>h t hd ?_
  unfold Oper.looksAt;exact qco _ (List.mem_filterMap.2 ⟨.tmp t,hx,rfl⟩)
 |_=>rfl
theorem zbU{ops:Array Oper}{o:Oper}{st st1:St}{d:Option Tmp}(ht:∀t,d≠some t→st1.tmps t=st.tmps t)(h:∀t,d=some t→t∉o.looksAt ops):
 zaJ ops o st1=zaJ ops o st:=by
 unfold zaJ;cases hg:o.guard with
 |none=>rfl
 |some jw=>
  obtain⟨j,want⟩:=jw;simp only[];cases hd:(ops[j]?).bind (·.dst)with
  |none=>rfl
  |some t=>
   simp only[];rw[ht t fun hd'=>h t hd' (by unfold Oper.looksAt;simp[hg,hd])]
theorem zfg(st:St)(d:Option Tmp)(r:AV)(l:List (Nat×Slot))(t:Nat)(h:d≠some t):((st.upd l).put d r).tmps t=st.tmps t:=by
 cases d with
 |none=>rfl
 |some d=>
  have hb:Nat.beq t d=false:=nbeq fun e=>h (by rw[e])
  simp[St.put,hb,St.upd]
theorem zd7(st:St)(d:Option Tmp)(r:AV)(t:Nat)(h:d≠some t):(st.put d r).tmps t=st.tmps t:=by
 cases d with
 |none=>rfl
 |some d=>
  have hb:Nat.beq t d=false:=nbeq fun e=>h (by rw[e])
  simp[St.put,hb]
theorem OkStep.swap{P:Program}{ops:Array Oper}{oi oj:Oper}{st st1 st2:St}{fi fj:Foot}(hi:OkStep P ops oi st fi st1)(hj:OkStep P ops oj st1 fj st2)
 (hap:oi.apart ops oj=true) (hc:compat fi fj=true):∃st1',OkStep P ops oj st fj st1'∧OkStep P ops oi st1' fi st2:=by
 obtain⟨h1,h2,h3⟩:=Oper.apart_spec hap;simp only[compat,qbB,qbX,qcR,List.contains_eq_mem,decide_eq_false_iff_not]at hc;obtain⟨c1,c2⟩:=hc;cases hi with
 |run rds wrs r hw hop hrd=>
  cases hj with
  |run rds' wrs' r' hw' hop' hrd'=>
   rw[zj2 (fun t ht=>zfg st oi.dst r wrs t ht) h1]at hop';rw[zbU (fun t ht=>zfg st oi.dst r wrs t ht) h1]at hw';refine⟨_,.run rds' wrs' r' hw' hop' fun p hp=>?_,?_⟩
   ·have:=hrd' p hp;rw[zes]at this;rw[←this];exact(zcg fun hn=>(c1 _ hn).1 (qbv.2 ⟨p,hp,rfl⟩)).symm
   ·have e:(((st.upd wrs).put oi.dst r).upd wrs').put oj.dst r'=(((st.upd wrs').put oj.dst r').upd wrs).put oi.dst r:=by
     rw[zjB,zjB,zhr _ r r' h2]
     congr 2
     simp only[St.upd,St.mk.injEq,true_and];exact updL_comm fun n hn=>(c1 n hn).2
    rw[e];refine .run rds wrs r ?_ ?_ fun p hp=>?_
    ·rw[zbU (fun t ht=>zfg st oj.dst r' wrs' t ht) h3];exact hw
    ·rw[zj2 (fun t ht=>zfg st oj.dst r' wrs' t ht) h3];exact hop
    ·rw[zes,←hrd p hp];exact zcg fun hn=>c2 _ hn (qbv.2 ⟨p,hp,rfl⟩)
  |skip fj r' hw' hrr=>
   rw[zbU (fun t ht=>zfg st oi.dst r wrs t ht) h1]at hw';refine⟨_,.skip _ r' hw' hrr,?_⟩;rw[zhr _ r r' h2,←zjB];refine .run rds wrs r ?_ ?_ fun p hp=>by rw[zes];exact hrd p hp
   ·rw[zbU (fun t ht=>zd7 st oj.dst r' t ht) h3];exact hw
   ·rw[zj2 (fun t ht=>zd7 st oj.dst r' t ht) h3];exact hop
 |skip fi r hw hrr=>
  cases hj with
  |run rds' wrs' r' hw' hop' hrd'=>
   rw[zj2 (fun t ht=>zd7 st oi.dst r t ht) h1]at hop';rw[zbU (fun t ht=>zd7 st oi.dst r t ht) h1]at hw';refine⟨_,.run rds' wrs' r' hw' hop' fun p hp=>by rw[←hrd' p hp,zes],?_⟩;rw[zjB,zhr _ r r' h2];refine .skip _ r ?_ hrr;rw[zbU (fun t ht=>zfg st oj.dst r' wrs' t ht) h3];exact hw
  |skip fj r' hw' hrr'=>
   rw[zbU (fun t ht=>zd7 st oi.dst r t ht) h1]at hw';refine⟨_,.skip _ r' hw' hrr',?_⟩;rw[zhr _ r r' h2];refine .skip _ r ?_ hrr;rw[zbU (fun t ht=>zd7 st oj.dst r' t ht) h3];exact hw
def Runs(P:Program)(ops:Array Oper)(F:Nat→Foot):List Nat→St→St→Prop
 | [],st,st'=>st=st'
 |i::l,st,st'=>∃o st1,ops[i]?=some o∧OkStep P ops o st (F i) st1∧Runs P ops F l st1 st'
def pairOK(ops:Array Oper)(F:Nat→Foot)(i j:Nat):Prop:=∀oi oj,ops[i]?=some oi→ops[j]?=some oj→oi.apart ops oj=true∧compat (F i) (F j)=true
theorem Runs.front{P:Program}{ops:Array Oper}{F:Nat→Foot}:∀{l1 l2:List Nat} {j:Nat} {st st':St},Runs P ops F (l1++j::l2) st st'→(∀i∈l1,pairOK ops F i j)→
 ∃o st1,ops[j]?=some o∧OkStep P ops o st (F j) st1∧Runs P ops F (l1++l2) st1 st'
 | [],l2,j,st,st',h,_=>h
 |i::l1,l2,j,st,st',h,hp=>by
  obtain⟨oi,st1,hoi,hsi,h⟩:=h;obtain⟨oj,st2,hoj,hsj,h⟩:=Runs.front h fun k hk=>hp k (by simp[hk])
  obtain⟨hap,hc⟩:=hp i qG oi oj hoi hoj;obtain⟨st1',h1,h2⟩:=hsi.swap hsj hap hc;exact⟨oj,st1',hoj,h1,oi,st2,hoi,h2,h⟩
def ancB(ops:Array Oper):Nat→Nat→Nat→Bool
 |0,_,_=>false
 |n+1,r,j=>match ops[j]? with
  |some o=>o.after.any fun e=>Region.binds .any e&&(e.on==r||ancB ops n r e.on)
  |none=>false
def Closed(ops:Array Oper)(listed:Array Bool):Prop:=∀j o,ops[j]?=some o→listed.getD j false=true→∀e∈o.after,Region.binds .any e=true→listed.getD e.on false=true
theorem zjg{ops:Array Oper}{listed:Array Bool}(hc:Closed ops listed):∀(n r j:Nat),ancB ops n r j=true→
 (∀o,ops[j]?=some o→∀e∈o.after,Region.binds .any e=true→listed.getD e.on false=true)→listed.getD r false=true
 |0,r,j,h,_=>by simp[ancB]at h
 |n+1,r,j,h,hj=>by
  unfold ancB at h;cases ho:ops[j]? with
  |none=>simp[ho]at h
  |some o=>
   simp only[ho]at h;obtain⟨e,he,h⟩:=Array.any_eq_true'.1 h;simp only[qbB,Bool.or_eq_true,beq_iff_eq]at h;obtain⟨hb,h⟩:=h;have hl:=hj o ho e he hb;rcases h with h|h
   ·rw[←h];exact hl
   ·exact zjg hc n r e.on h fun o' ho' e' he' hb'=>hc e.on o' ho' hl e' he' hb'
def zer(nt fuel:Nat)(ops:Array Oper)(F:List Foot):Bool:=
 (List.range ops.size).all fun j=>match ops[j]? with
  |some oj=>(match oj.dst with|some d=>decide (d<nt)|none=>true)&&oj.after.all (fun e=> !Region.binds .any e||decide (e.on<j))&&
   (List.range j).all fun i=>match ops[i]? with
    |some oi=>(oi.apart ops oj&&compat (F.getD i ([],[])) (F.getD j ([],[])))||ancB ops fuel i j
    |none=>true
  |none=>true
theorem zf9{nt fuel:Nat}{ops:Array Oper}{F:List Foot}(h:zer nt fuel ops F=true){j:Nat}{oj:Oper}(hj:ops[j]?=some oj):
 (∀d,oj.dst=some d→d<nt)∧(∀e∈oj.after,Region.binds .any e=true→e.on<j)∧
 ∀i,i<j→ancB ops fuel i j=true∨pairOK ops (fun k=>F.getD k ([],[])) i j:=by
 simp only[zer,qbX,List.mem_range]at h;have hlt:=(qbK.1 hj).1;have h1:=h j hlt;simp only[hj,qbB]at h1;obtain⟨⟨h2,h3⟩,h4⟩:=h1;refine⟨fun d hd=>by simpa[hd]using h2,fun e he hb=>?_,fun i hi=>?_⟩
 ·have:=Array.all_eq_true_iff_forall_mem.1 h3 e he;simpa[hb]using this
 ·simp only[qbX,List.mem_range]at h4;have h5:=h4 i hi;cases ho:ops[i]? with
  |none=>rw[Array.getElem?_eq_none_iff]at ho;omega
  |some oi=>
   simp only[ho,Bool.or_eq_true,qbB]at h5;rcases h5 with h5|h5
   ·refine .inr fun oi' oj' hi' hj'=>?_
    rw[ho]at hi';rw[hj]at hj';cases hi';cases hj';exact h5
   ·exact .inl h5
def zbk(n:Nat)(listed:Array Bool):List Nat:=(List.range n).filter fun i=> !listed.getD i true
theorem zi2{listed:Array Bool}{n i:Nat}(hsz:listed.size=n)(hi:i<n):listed.getD i true=listed.getD i false:=by simp[hsz▸hi]
theorem zg3{n:Nat}{listed:Array Bool}(hsz:listed.size=n){j:Nat}{l1 l2:List Nat}(h:zbk n listed=l1++j::l2):zbk n (listed.setIfInBounds j true)=l1++l2:=by
 have hnd:(zbk n listed).Nodup:=List.Nodup.sublist qcU List.nodup_range
 have e:zbk n (listed.setIfInBounds j true)=(zbk n listed).filter (fun i=>i≠j):=by
  unfold zbk;rw[qc0];refine List.filter_congr fun i hi=>?_
  have hi':i<n:=qai
  by_cases hij:i=j
  ·subst hij;simp[hsz,hi']
  ·rw[getD_set_ne true (Ne.symm hij)];simp[hij]
 rw[e,h];rw[h]at hnd;have hn:=List.nodup_append.1 hnd;obtain⟨n1,n2,n3⟩:=hn;rw[qc1,qcr];simp only[ne_eq,not_true_eq_false,decide_false,qbJ,if_false]
 congr 1
 ·refine qcV.2 fun i hi=>?_
  have:=n3 i hi j qG;simpa using this
 ·refine qcV.2 fun i hi=>?_
  have:=(qc4.1 n2).1;simp only[decide_eq_true_eq];intro e;subst e;exact this hi
theorem zfY{P:Program}{ops:Array Oper}{nt fuel:Nat}{F:List Foot}(hok:zer nt fuel ops F=true){w0:World}{A:Ctx}{Q:Exit→Act→World→Prop}{st':St}
 (hQ:∀a w,Sim w0 A nt st' a w→Q .normal a w):∀(n:Nat) (listed:Array Bool) (st:St) (a:Act) (w:World),listed.size=ops.size→Closed ops listed→
  (zbk ops.size listed).length=n→Runs P ops (fun k=>F.getD k ([],[])) (zbk ops.size listed) st st'→Sim w0 A nt st a w→wpAny P .any ops Q n listed a w
 |0,listed,st,a,w,hsz,hcl,hn,hr,hs=>by
  have h0:zbk ops.size listed=[]:=qbz hn;rw[h0]at hr;simp only[Runs]at hr;subst hr;refine⟨?_,hQ a w hs⟩;cases hrd:Region.ready .any ops listed with
  |nil=>rfl
  |cons j t=>
   exfalso
   have hj:j∈Region.ready .any ops listed:=by rw[hrd];simp
   obtain⟨hu,o,ho,_⟩:=mem_ready.1 hj
   have:j∈zbk ops.size listed:=by
    unfold zbk;simp[(qbK.1 ho).1];simpa using hu
   rw[h0]at this;cases this
 |n+1,listed,st,a,w,hsz,hcl,hn,hr,hs=>by
  refine⟨fun h0=>?_,fun j hj=>?_⟩
  ·exfalso
   cases hu:zbk ops.size listed with
   |nil=>rw[hu]at hn;simp at hn
   |cons i l=>
    have him:i∈zbk ops.size listed:=by rw[hu];simp
    have hi2:i<ops.size∧listed.getD i true=false:=by
     have:=him;unfold zbk at this;rw[qce]at this;exact⟨by simpa using this.1,by simpa using this.2⟩
    have ho:ops[i]?=some ops[i]:=qct hi2.1;have hsp:=zf9 hok ho
    have:i∈Region.ready .any ops listed:=by
     rw[mem_ready];refine⟨hi2.2,_,ho,fun e he hb=>?_⟩;have hlt:=hsp.2.1 e he hb;have hle:e.on<ops.size:=qp;cases hL:listed.getD e.on true with
     |true=>rw[←zi2 hsz hle];exact hL
     |false=>
      exfalso
      have hem:e.on∈zbk ops.size listed:=by
       unfold zbk;rw[qce];exact⟨by simpa using hle,by rw[hL];rfl⟩
      rw[hu]at hem;rcases qbA.1 hem with h|h
      ·omega
      ·have hp:(zbk ops.size listed).Pairwise (· < ·):=List.Pairwise.filter _ List.pairwise_lt_range;rw[hu]at hp;have:=(List.pairwise_cons.1 hp).1 _ h;omega
    rw[h0]at this;cases this
  ·obtain⟨hu,o,ho,hall⟩:=mem_ready.1 hj;have hlt:=(qbK.1 ho).1
   have hjm:j∈zbk ops.size listed:=by
    unfold zbk;rw[qce];exact⟨by simpa using hlt,by rw[hu];rfl⟩
   obtain⟨l1,l2,hl⟩:=List.append_of_mem hjm;have hsp:=zf9 hok ho;have hp:(zbk ops.size listed).Pairwise (· < ·):=List.Pairwise.filter _ List.pairwise_lt_range;have hr2:=hr;rw[hl]at hr2 hp
   obtain⟨o',st1,ho',hst,hrest⟩:=hr2.front fun i hi=>by
    have hij:i<j:=(List.pairwise_append.1 hp).2.2 i hi j qG;rcases hsp.2.2 i hij with h|h
    ·exfalso
     have hli:=zjg hcl fuel i j h fun o2 ho2 e he hb=>by
      rw[ho]at ho2;cases ho2;exact hall e he hb
     have him:i∈zbk ops.size listed:=by rw[hl];simp[hi]
     unfold zbk at him;rw[qce]at him;have hi3:i<ops.size:=qp;rw[zi2 hsz hi3,hli]at him;simp at him
    ·exact h
   rw[ho]at ho';cases ho';refine hst.sound hs hsp.1 ho fun a' w' hs'=>?_
   refine zfY hok hQ n _ st1 a' w' (by simpa using hsz) ?_ ?_ ?_ hs'
   ·intro k ok hk hkl e he hb
    by_cases hkj:k=j
    ·subst hkj;rw[ho]at hk;cases hk;exact getD_set_true (hall e he hb)
    ·rw[getD_set_ne false (Ne.symm hkj)]at hkl;exact getD_set_true (hcl k ok hk hkl e he hb)
   ·rw[zg3 hsz hl];rw[hl]at hn;simp at hn⊢;omega
   ·rw[zg3 hsz hl];exact hrest
structure Env where
 P:Program
 w0:World
 A:Ctx
 nt:Nat
def awp(G:Env)(c:Code)(Q:Exit→St→Prop)(st:St):Prop:=
 ∀a w,Sim G.w0 G.A G.nt st a w→c.wp G.P (fun e a' w'=>∃st',Q e st'∧Sim G.w0 G.A G.nt st' a' w') a w
def Thn(K:St→Prop)(Q:Exit→St→Prop):Exit→St→Prop
 | .normal,st=>K st
 |e,st=>Q e st
def InB(id:Nat)(Q:Exit→St→Prop):Exit→St→Prop
 | .exit id',st=>if id'=id then Q .normal st else Q (.exit id') st
 |e,st=>Q e st
section
variable {G:Env}{Q:Exit→St→Prop}{st:St}
theorem zgw{c:Code}{Q':Exit→St→Prop}(h:awp G c Q st)(k:∀e st,Q e st→Q' e st):awp G c Q' st:=
 fun a w hs=>wp_mono (h a w hs) fun e a' w' ⟨st',h1,h2⟩=>⟨st',k _ _ h1,h2⟩
theorem zad{x y:Code}(h:awp G x (Thn (awp G y Q) Q) st):awp G (.seq x y) Q st:=by
 intro a w hs;refine wp_seq (wp_mono (h a w hs) ?_);rintro e a' w' ⟨st',h1,h2⟩;cases e
 case normal=>exact h1 a' w' h2
 all_goals exact⟨st',h1,h2⟩
theorem zal(h:Q .normal st):awp G .skip Q st:=fun a w hs=>wp_skip ⟨st,h,hs⟩
theorem zaq(h:Q .ret st):awp G .ret Q st:=fun a w hs=>wp_ret ⟨st,h,hs⟩
theorem zar{id:Nat}(h:Q (.exit id) st):awp G (.exit id) Q st:=fun a w hs=>wp_exit ⟨st,h,hs⟩
theorem zaj{id:Nat}{c:Code}(h:awp G c (InB id Q) st):awp G (.block id c) Q st:=by
 intro a w hs;refine wp_block (wp_mono (h a w hs) ?_);rintro e a' w' ⟨st',h1,h2⟩;cases e
 case exit id'=>
  simp only[InB]at h1;simp only[Exit.inBlock]
  split
  ·rename_i he;rw[if_pos he]at h1;exact⟨st',h1,h2⟩
  ·rename_i he;rw[if_neg he]at h1;exact⟨st',h1,h2⟩
 all_goals exact⟨st',h1,h2⟩
theorem zaI{c:Operand}{x y:Code}(t:Bool)(hc:st.ev c=.p (.v (.bool t)))(h1:t=true→awp G x Q st)(h2:t=false→awp G y Q st):awp G (.cond c x y) Q st:=by
 intro a w hs;obtain⟨S,m,hm,hj,ht⟩:=hs.mem;have:=ev_rep ht c;rw[hc]at this;simp only[Rep,PRep]at this;exact wp_cond_split this.1 (fun h=>h1 h a w hs) (fun h=>h2 h a w hs)
theorem awp_loop{c:Code}(I:Nat→St→Prop){n:Nat}(h0:I n st)(round:∀n st,I n st→awp G c (Thn (fun st'=>∃n'<n,I n' st') Q) st):awp G (.loop c) Q st:=by
 intro a w hs
 let J:Nat→Act→World→Prop:=fun n a w=>∃st,I n st∧Sim G.w0 G.A G.nt st a w
 have key:∃n,J n a w:=⟨n,st,h0,hs⟩
 classical
 let μ:Act→World→Nat:=fun a w=>if h:∃n,J n a w then Classical.choose (p:=fun n=>J n a w∧∀k,J k a w→n≤k) (by
  obtain⟨n,hn⟩:=h
  induction n using Nat.strongRecOn with
  |_ n ih=>
   by_cases hk:∃k,k<n∧J k a w
   ·obtain⟨k,h1,h2⟩:=hk;exact ih k h1 h2
   ·exact⟨n,hn,fun k hk'=>Nat.le_of_not_lt fun hlt=>hk ⟨k,hlt,hk'⟩⟩)else 0
 have hμ:∀a w,(∃n,J n a w)→J (μ a w) a w∧∀k,J k a w→μ a w≤k:=by
  intro a w h;have e:μ a w=_:=dif_pos h;rw[e];exact Classical.choose_spec (p:=fun n=>J n a w∧∀k,J k a w→n≤k) _
 refine wp_loop (fun a w=>∃n,J n a w) μ key ?_;intro a w hI;obtain⟨⟨st1,h1,h2⟩,h3⟩:=hμ a w hI;refine wp_mono (round _ st1 h1 a w h2) ?_;rintro e a' w' ⟨st',h4,h5⟩;cases e
 case normal=>
  obtain⟨n',hlt,hI'⟩:=h4;refine⟨⟨n',st',hI',h5⟩,?_⟩;have:=(hμ a' w' ⟨n',st',hI',h5⟩).2 n' ⟨st',hI',h5⟩;omega
 all_goals exact⟨st',h4,h5⟩
end
def ARun(P:Program)(ops:Array Oper)(K:List Foot→St→Prop):List Oper→List Foot→St→Prop
 | [],fs,st=>K fs st
 |o::l,fs,st=>∃f st1,OkStep P ops o st f st1∧ARun P ops K l (fs++[f]) st1
theorem ziq{P:Program}{ops:Array Oper}{K:List Foot→St→Prop}:∀(l:List Oper) (k:Nat) (fs:List Foot) (st:St),fs.length=k→(∀j,l[j]?=ops[k+j]?)→
 ARun P ops K l fs st→∃fs' st',K fs' st'∧(∀i,i<k→fs'.getD i ([],[])=fs.getD i ([],[]))∧Runs P ops (fun i=>fs'.getD i ([],[])) ((List.range l.length).map (k+ ·)) st st'
 | [],k,fs,st,hk,hl,h=>⟨fs,st,h,fun i hi=>rfl,rfl⟩
 |o::l,k,fs,st,hk,hl,h=>by
  obtain⟨f,st1,h1,h2⟩:=h;obtain⟨fs',st',h3,h4,h5⟩:=ziq l (k+1) (fs++[f]) st1 (by simp[hk]) (fun j=>by have:=hl (j+1);simpa[qc8,Nat.add_comm 1 j]using this) h2;refine⟨fs',st',h3,fun i hi=>?_,?_⟩
  ·rw[h4 i (by omega)];simp only[List.getD_eq_getElem?_getD];rw[qcf (by omega)]
  ·rw[qbE,List.range_succ_eq_map,qbu,qcD];refine⟨o,st1,by simpa using(hl 0).symm,?_,?_⟩
   ·have:=h4 (k+0) qp;simp only[this]
    have e:(fs++[f]).getD (k+0) ([],[])=f:=by
     simp only[List.getD_eq_getElem?_getD,qb4];rw[qbZ (by omega)];simp[hk]
    rw[e];exact h1
   ·have e:((fun x=>k+x)∘Nat.succ)=(fun x=>k+1+x):=by funext x;simp;omega
    rw[e];exact h5
theorem zf1(n:Nat):zbk n (Array.replicate n false)=List.range n:=by
 unfold zbk;refine qcV.2 fun i hi=>?_
 have:i<n:=qai;simp[this]
theorem zfX{P:Program}{ops:Array Oper}{F:Nat→Foot}{nt:Nat}(hd:∀(i:Nat) (o:Oper),ops[i]?=some o→∀d,o.dst=some d→d<nt){w0:World}{A:Ctx}{Q:Exit→Act→World→Prop}{st':St}
 (hQ:∀a w,Sim w0 A nt st' a w→Q .normal a w):∀(l:List Nat) (st:St) (a:Act) (w:World),Runs P ops F l st st'→Sim w0 A nt st a w→wpOps P ops Q l a w
 | [],st,a,w,h,hs=>by
  simp only[Runs]at h;subst h;exact hQ a w hs
 |i::l,st,a,w,h,hs=>by
  obtain⟨o,st1,ho,h1,h2⟩:=h;rw[wpOps_cons];exact h1.sound hs (hd i o ho) ho fun a' w' hs'=>zfX hd hQ l st1 a' w' h2 hs'
theorem Sim.drew{w0:World}{A:Ctx}{nt:Nat}{st:St}{a:Act}{w:World}(h:Sim w0 A nt st a w):Sim w0 A nt st a {w with drawn:=w.drawn+1}:=by
 obtain⟨⟨S,m,hm,hj,ht⟩,hs,hd⟩:=h;have g:Grow S m w S m {w with drawn:=w.drawn+1}:=⟨fun _ h=>h,fun _ _=>rfl,fun _ _ h=>h⟩
 exact⟨⟨S,m,⟨hm.bel.drew,hm.sA,hm.sW,hm.un,fun o ob ho=>by
  obtain⟨v,h1,h2,h3⟩:=hm.live o ob ho
  exact⟨v,h1,h2.mono g fun _ _=>rfl,h3⟩,hm.inj,hm.gl⟩,A.up _ _ _ _ _ _ g hj,fun t=>Rep.mono g _ _ (ht t)⟩,hs,hd⟩
theorem awp_region_draw{G:Env}{Q:Exit→St→Prop}{st:St}{id:Nat}{l:List Oper}{fuel:Nat}(hm:G.P.follows .mixedOrders=true)
 (h:ARun G.P l.toArray (fun fs st'=>zer G.nt fuel l.toArray fs=true∧Q .normal st') l [] st):awp G (.region id l.toArray true) Q st:=by
 intro a w hs;obtain⟨fs,st',⟨h1,h2⟩,_,h4⟩:=ziq l 0 [] st rfl (fun j=>by simp) h;refine wp_region_any hm (zfY h1 (fun a w hs=>⟨st',h2,hs⟩) _ _ st _ _ qG ?_ ?_ ?_ hs.drew)
 ·intro j o hj hl;rcases qc2 j l.length with h|h
  ·simp[h]at hl
  ·rw[Array.getElem?_eq_none_iff.2 (show l.toArray.size≤j by simpa using h)]at hj;cases hj
 ·rw[zf1];simp
 ·rw[zf1];simpa using h4
def dstOK(nt:Nat)(l:List Oper):Bool:=l.all fun o=>match o.dst with|some d=>Nat.blt d nt|none=>true
theorem awp_region_text{G:Env}{Q:Exit→St→Prop}{st:St}{id:Nat}{l:List Oper}(hd:dstOK G.nt l=true)
 (h:ARun G.P l.toArray (fun fs st'=>Q .normal st') l [] st):awp G (.region id l.toArray false) Q st:=by
 intro a w hs;obtain⟨fs,st',h2,_,h4⟩:=ziq l 0 [] st rfl (fun j=>by simp) h;refine wp_region (zfX (fun i o hi d hd'=>?_) (fun a w hs=>⟨st',h2,hs⟩) _ st _ _ (by simpa using h4) hs);simp only[dstOK,qbX]at hd;have hi':l[i]?=some o:=qai;have:=hd o (qbo hi');rw[hd']at this;exact of_decide_eq_true (by simpa[Nat.blt_eq]using this)
mutual
def AV.ren(ρ:Nat→Nat):AV→AV
 | .p x=>.p x
 | .agg cs=>.agg (AV.renL ρ cs)
 | .tup cs=>.tup (AV.renL ρ cs)
 | .ptr cs=>.ptr cs
 | .ref o off=>.ref (ρ o) off
 | .row o=>.row (ρ o)
 | .psl o off n size=>.psl (ρ o) off n size
 | .pslc o n=>.pslc (ρ o) n
 | .fn f cs=>.fn f (AV.renL ρ cs)
 | .mb b x=>.mb b (x.ren ρ)
 | .sat sp=>.sat sp
 | .mp o=>.mp (ρ o)
 | .any=>.any
def AV.renL(ρ:Nat→Nat):List AV→List AV
 | []=>[]
 |c::cs=>c.ren ρ::AV.renL ρ cs
end
mutual
theorem ren_id:∀x:AV,x.ren (fun o=>o)=x
 | .p x=>rfl
 | .agg cs=>by simp only[AV.ren,zhV cs]
 | .tup cs=>by simp only[AV.ren,zhV cs]
 | .ptr cs=>rfl
 | .ref o off=>rfl
 | .row o=>rfl
 | .psl o off n size=>rfl
 | .pslc o n=>rfl
 | .fn f cs=>by simp only[AV.ren,zhV cs]
 | .mb b x=>by simp only[AV.ren,ren_id x]
 | .sat sp=>rfl
 | .mp o=>rfl
 | .any=>rfl
theorem zhV:∀x:List AV,AV.renL (fun o=>o) x=x
 | []=>rfl
 |c::cs=>by simp only[AV.renL,ren_id c,zhV cs]
end
def AObj.ren(ρ:Nat→Nat):AObj→AObj
 | .box ty cs=>.box ty (AV.renL ρ cs)
 | .row e size n cs=>.row e size n cs
 | .map es=>.map es
 | .rowA e size n c cs=>.rowA e size n c (AV.renL ρ cs)
mutual
def AV.okIn(K:List Nat):AV→Bool
 | .agg cs=>AV.okInL K cs
 | .tup cs=>AV.okInL K cs
 | .ref o _=>K.elem o
 | .row o=>K.elem o
 | .psl o _ _ _=>K.elem o
 | .pslc o _=>K.elem o
 | .fn _ cs=>AV.okInL K cs
 | .mb _ x=>x.okIn K
 | .p _=>true
 | .ptr _=>true
 | .sat sp=>true
 | .mp o=>K.elem o
 | .any=>true
def AV.okInL(K:List Nat):List AV→Bool
 | []=>true
 |c::cs=>c.okIn K&&AV.okInL K cs
end
def AObj.okIn(K:List Nat):AObj→Bool
 | .box _ cs=>AV.okInL K cs
 | .row .. =>true
 | .map _=>true
 | .rowA _ _ _ _ cs=>AV.okInL K cs
section
variable {S:Nat→Prop}{w:World}
mutual
theorem Rep.unren{m m':Nat→Option Value}{ρ:Nat→Nat}{K:List Nat}(hm:∀o∈K,m' o=m (ρ o)):∀(x:AV) (u:Value),x.okIn K=true→Rep S m w (x.ren ρ) u→Rep S m' w x u
 | .p x,u,_,h=>by simpa only[Rep,AV.ren]using h
 | .agg cs,u,hk,h=>by
  simp only[AV.ren,Rep]at h⊢;obtain⟨us,h1,h2,h3⟩:=h;exact⟨us,h1,RepL.unren hm cs us qaJ h2,h3⟩
 | .tup cs,u,hk,h=>by
  simp only[AV.ren,Rep]at h⊢;obtain⟨us,h1,h2⟩:=h;exact⟨us,h1,RepL.unren hm cs us qaJ h2⟩
 | .ptr cs,u,_,h=>by simpa only[Rep,AV.ren]using h
 | .ref o off,u,hk,h=>by
  simp only[AV.ren,Rep]at h⊢;have ho:o∈K:=qaG;rw[hm o ho];exact h
 | .row o,u,hk,h=>by
  simp only[AV.ren,Rep]at h⊢;have ho:o∈K:=qaG;rw[hm o ho];exact h
 | .psl o off n _,u,hk,h=>by
  simp only[AV.ren,Rep]at h⊢;have ho:o∈K:=qaG;rw[hm o ho];exact h
 | .pslc o n,u,hk,h=>by
  simp only[AV.ren,Rep]at h⊢;have ho:o∈K:=qaG;rw[hm o ho];exact h
 | .fn f cs,u,hk,h=>by
  simp only[AV.ren,Rep]at h⊢;obtain⟨us,h1,h2⟩:=h;exact⟨us,h1,RepL.unren hm cs us qaJ h2⟩
 | .mb b x,u,hk,h=>by
  simp only[AV.ren,Rep]at h⊢;exact⟨fun hb=>Rep.unren hm x u qaJ (h.1 hb),h.2⟩
 | .sat sp,u,_,h=>by simpa only[Rep,AV.ren]using h
 | .mp o,u,hk,h=>by
  simp only[AV.ren,Rep]at h⊢;have ho:o∈K:=qaG;rw[hm o ho];exact h
 | .any,u,_,h=>by simp only[Rep]
theorem RepL.unren{m m':Nat→Option Value}{ρ:Nat→Nat}{K:List Nat}(hm:∀o∈K,m' o=m (ρ o)):∀(x:List AV) (u:List Value),AV.okInL K x=true→RepL S m w (AV.renL ρ x) u→RepL S m' w x u
 | [],u,_,h=>by simpa only[AV.renL,RepL]using h
 |c::cs,u,hk,h=>by
  simp only[AV.okInL,qbB]at hk;simp only[AV.renL,RepL]at h⊢;obtain⟨u,us,h1,h2,h3⟩:=h;exact⟨u,us,h1,Rep.unren hm c u hk.1 h2,RepL.unren hm cs us hk.2 h3⟩
end
mutual
theorem Rep.ren{m m':Nat→Option Value}{ρ:Nat→Nat}(hm:∀o v,m o=some v→m' (ρ o)=some v):∀(x:AV) (u:Value),Rep S m w x u→Rep S m' w (x.ren ρ) u
 | .p x,u,h=>by simpa only[Rep,AV.ren]using h
 | .agg cs,u,h=>by
  simp only[AV.ren,Rep]at h⊢;obtain⟨us,h1,h2,h3⟩:=h;exact⟨us,h1,RepL.ren hm cs us h2,h3⟩
 | .tup cs,u,h=>by
  simp only[AV.ren,Rep]at h⊢;obtain⟨us,h1,h2⟩:=h;exact⟨us,h1,RepL.ren hm cs us h2⟩
 | .ptr cs,u,h=>by simpa only[Rep,AV.ren]using h
 | .ref o off,u,h=>by
  simp only[AV.ren,Rep]at h⊢;obtain⟨b,v0,h1,h2⟩:=h;exact⟨b,v0,hm _ _ h1,h2⟩
 | .row o,u,h=>by
  simp only[AV.ren,Rep]at h⊢;exact⟨hm _ _ h.1,h.2⟩
 | .psl o off n _,u,h=>by
  simp only[AV.ren,Rep]at h⊢;obtain⟨a,cap,h1,h2,h3⟩:=h;refine⟨a,cap,h1,h2,?_⟩;rcases h3 with h3|⟨b,v0,h4,h5,h6⟩
  ·exact .inl h3
  ·exact .inr ⟨b,v0,hm _ _ h4,h5,h6⟩
 | .pslc o n,u,h=>by
  simp only[AV.ren,Rep]at h⊢;obtain⟨a,n0,c,h1,h2⟩:=h;exact⟨a,n0,c,hm _ _ h1,h2⟩
 | .fn f cs,u,h=>by
  simp only[AV.ren,Rep]at h⊢;obtain⟨us,h1,h2⟩:=h;exact⟨us,h1,RepL.ren hm cs us h2⟩
 | .mb b x,u,h=>by
  simp only[AV.ren,Rep]at h⊢;exact⟨fun hb=>Rep.ren hm x u (h.1 hb),h.2⟩
 | .sat sp,u,h=>by simpa only[Rep,AV.ren]using h
 | .mp o,u,h=>by simp only[AV.ren,Rep]at h⊢;exact⟨hm _ _ h.1,h.2⟩
 | .any,u,h=>by simp only[Rep,AV.ren]
theorem RepL.ren{m m':Nat→Option Value}{ρ:Nat→Nat}(hm:∀o v,m o=some v→m' (ρ o)=some v):∀(x:List AV) (u:List Value),RepL S m w x u→RepL S m' w (AV.renL ρ x) u
 | [],u,h=>by simpa only[AV.renL,RepL]using h
 |c::cs,u,h=>by
  simp only[AV.renL,RepL]at h⊢;obtain⟨u,us,h1,h2,h3⟩:=h;exact⟨u,us,h1,Rep.ren hm c u h2,RepL.ren hm cs us h3⟩
end
end
def zgi:List (Nat×AV)→Nat→AV
 | [],_=>.any
 |(n,x)::l,t=>bif Nat.beq t n then x else zgi l t
def zcT:List (Nat×AObj)→Nat→Slot
 | [],_=>.un
 |(n,x)::l,t=>bif Nat.beq t n then .live x else zcT l t
def St.of(ts:List (Nat×AV))(hs:List (Nat×AObj)):St:=⟨zgi ts,zcT hs⟩
theorem lookT_mem:∀{l:List (Nat×AV)} {t:Nat},zgi l t=.any∨∃p∈l,p.1=t∧p.2=zgi l t
 | [],t=>.inl rfl
 |(n,x)::l,t=>by
  by_cases h:t=n
  ·subst h;exact .inr ⟨(t,x),qG,rfl,by simp[zgi]⟩
  ·simp only[zgi,nbeq h,cond_false];rcases lookT_mem (l:=l) (t:=t)with h1|⟨p,h1,h2,h3⟩
   ·exact .inl h1
   ·exact .inr ⟨p,by simp[h1],h2,h3⟩
theorem zck:∀{l:List (Nat×AObj)} {t:Nat} {ob:AObj},zcT l t=.live ob→(t,ob)∈l
 | [],t,ob,h=>by cases h
 |(n,x)::l,t,ob,h=>by
  by_cases hn:t=n
  ·subst hn;simp[zcT]at h;subst h;simp
  ·simp only[zcT,nbeq hn,cond_false]at h;exact List.mem_cons_of_mem _ (zck h)
theorem zjN:∀{l:List (Nat×AObj)} {t:Nat},zcT l t=.un→t∉l.map Prod.fst
 | [],t,h=>by simp
 |(n,x)::l,t,h=>by
  by_cases hn:t=n
  ·subst hn;simp[zcT]at h
  ·simp only[zcT,nbeq hn,cond_false]at h;simp only[qbu,qbA,not_or];exact⟨hn,zjN h⟩
def LeT(ρ:Nat→Nat)(st:St)(K:List Nat):List (Nat×AV)→Prop
 | []=>True
 |(t,x)::l=>(st.tmps t=x.ren ρ∧x.okIn K=true)∧LeT ρ st K l
def LeO(ρ:Nat→Nat)(st:St)(K:List Nat):List (Nat×AObj)→Prop
 | []=>True
 |(o,x)::l=>(st.heap (ρ o)=.live (x.ren ρ)∧x.okIn K=true)∧LeO ρ st K l
theorem LeT.mem{ρ:Nat→Nat}{st:St}{K:List Nat}:∀{l:List (Nat×AV)},LeT ρ st K l→∀p∈l,st.tmps p.1=p.2.ren ρ∧p.2.okIn K=true
 | [],_,p,hp=>by cases hp
 |(t,x)::l,h,p,hp=>by
  rcases qbA.1 hp with rfl|hp
  ·exact h.1
  ·exact LeT.mem h.2 p hp
theorem LeO.mem{ρ:Nat→Nat}{st:St}{K:List Nat}:∀{l:List (Nat×AObj)},LeO ρ st K l→∀p∈l,st.heap (ρ p.1)=.live (p.2.ren ρ)∧p.2.okIn K=true
 | [],_,p,hp=>by cases hp
 |(t,x)::l,h,p,hp=>by
  rcases qbA.1 hp with rfl|hp
  ·exact h.1
  ·exact LeO.mem h.2 p hp
def zbL:List Nat→Bool
 | []=>true
 |x::l=> !l.elem x&&zbL l
theorem zfj{α:Type}{ρ:Nat→Nat}:∀{l:List (Nat×α)},zbL (l.map fun p=>ρ p.1)=true→∀p∈l,∀q∈l,ρ p.1=ρ q.1→p.1=q.1
 | [],_,p,hp,_,_,_=>by cases hp
 |x::l,h,p,hp,q,hq,e=>by
  simp only[qbu,zbL,qbB,qcR,List.elem_eq_mem,decide_eq_false_iff_not,qbv,not_exists,not_and]at h;rcases qbA.1 hp with hp|hp<;>rcases qbA.1 hq with hq|hq
  ·rw[hp,hq]
  ·rw[hp]at e;exact absurd e.symm (h.1 q hq)
  ·rw[hq]at e;exact absurd e (h.1 p hp)
  ·exact zfj h.2 p hp q hq e
theorem Sim.restate{w0:World}{A:Ctx1}{nt:Nat}{st:St}{a:Act}{w:World}(ρ:Nat→Nat)(ts:List (Nat×AV))(hs:List (Nat×AObj))
 (h1:LeT ρ st (hs.map Prod.fst) ts) (h2:LeO ρ st (hs.map Prod.fst) hs) (h3:zbL (hs.map fun p=>ρ p.1)=true) (h:Sim w0 (ctx0 A) nt st a w):Sim w0 (ctx0 A) nt (St.of ts hs) a w:=by
 obtain⟨⟨S,m,hm,hj,ht⟩,hsz,hd⟩:=h;refine⟨⟨S,fun o=>if o∈hs.map Prod.fst then m (ρ o)else none,⟨hm.bel,hm.sA,hm.sW,?_,?_,?_,hm.gl⟩,hj,?_⟩,hsz,hd⟩
 ·intro o ho;exact if_neg (zjN ho)
 ·intro o ob ho;have hmem:=zck ho;have hin:o∈hs.map Prod.fst:=qbv.2 ⟨_,hmem,rfl⟩;obtain⟨h4,h5⟩:=h2.mem _ hmem;obtain⟨v,h6,h7,h8⟩:=hm.live _ _ h4;refine⟨v,by simp only[if_pos hin];exact h6,?_,h8⟩;cases ob with
  |box ty cs=>
   obtain⟨b,us,g1,g2,g3,g4,g5⟩:=h7;exact⟨b,us,g1,g2,RepL.unren (K:=hs.map Prod.fst) (m:=m) (ρ:=ρ) (fun o ho=>if_pos ho) cs us h5 g3,g4,g5⟩
  |row e size n cs=>exact h7
  |map es=>exact h7
  |rowA e size n c cs=>
   obtain⟨us,g1,g2,g3⟩:=h7;exact⟨us,RepL.unren (K:=hs.map Prod.fst) (m:=m) (ρ:=ρ) (fun o ho=>if_pos ho) cs us h5 g1,g2,g3⟩
 ·intro o o' ob ob' v v' b ho ho' hv hv' hb hb';have g1:=zck ho;have g2:=zck ho';have k1:o∈hs.map Prod.fst:=qbv.2 ⟨_,g1,rfl⟩;have k2:o'∈hs.map Prod.fst:=qbv.2 ⟨_,g2,rfl⟩;simp only[if_pos k1]at hv;simp only[if_pos k2]at hv';have:=hm.inj _ _ _ _ _ _ _ (h2.mem _ g1).1 (h2.mem _ g2).1 hv hv' hb hb';exact zfj h3 _ g1 _ g2 this
 ·intro t;show Rep _ _ _ (zgi ts t) _;rcases lookT_mem (l:=ts) (t:=t)with h|⟨p,g1,g2,g3⟩
  ·rw[h];simp only[Rep]
  ·obtain⟨k1,k2⟩:=h1.mem p g1;rw[←g3];subst g2;refine Rep.unren (K:=hs.map Prod.fst) (m:=m) (ρ:=ρ) (fun o ho=>if_pos ho) _ _ k2 ?_;rw[←k1];exact ht _
def Re(st st':St):Prop:=∀(w0:World) (A:Ctx1) (nt:Nat) (a:Act) (w:World),Sim w0 (ctx0 A) nt st a w→Sim w0 (ctx0 A) nt st' a w
theorem za3{P:Program}{w0:World}{A:Ctx1}{nt:Nat}{c:Code}{Q:Exit→St→Prop}{st st':St}(r:Re st st')(h:awp ⟨P,w0,ctx0 A,nt⟩ c Q st'):awp ⟨P,w0,ctx0 A,nt⟩ c Q st:=fun a w hs=>h a w (r _ _ _ a w hs)
def AV.isP:AV→Bool
 | .p _=>true
 |_=>false
def AV.toP:AV→PV
 | .p x=>x
 |_=>.sl 0 0 []
theorem zjM:∀{cs:List AV},cs.all AV.isP=true→(cs.map AV.toP).map AV.p=cs
 | [],_=>rfl
 |c::cs,h=>by
  simp only[List.all_cons,qbB]at h;have h2:=zjM h.2;have h1:=h.1;cases c<;>simp only[AV.isP,qbJ]at h1
  simp only[qbu,AV.toP,h2]
def zcI(h:Slot)(off n size:Nat):AV:=
 match h with
 | .live (.row _ _ _ cs)=>if off+n*size≤cs.length then .p (.sl n size ((cs.drop off).take (n*size)))else .any
 | .live (.box _ cs)=>if off+n*size≤cs.length∧cs.all AV.isP=true then .p (.sl n size (((cs.map AV.toP).drop off).take (n*size)))else .any
 |_=>.any
def zhT(h:Slot):AV:=
 match h with
 | .live (.row _ size n cs)=>.p (.sl n size cs)
 |_=>.any
mutual
def AV.view(keep:Nat→Bool)(h:Nat→Slot):AV→AV
 | .p x=>.p x
 | .agg cs=>.agg (AV.viewL keep h cs)
 | .tup cs=>.tup (AV.viewL keep h cs)
 | .ptr cs=>.ptr cs
 | .ref o off=>.any
 | .row o=>bif keep o then .row o else zhT (h o)
 | .psl o off n size=>bif keep o then .psl o off n size else zcI (h o) off n size
 | .pslc o n=>bif keep o then .pslc o n else .any
 | .fn f cs=>.fn f (AV.viewL keep h cs)
 | .mb b x=>.any
 | .sat sp=>.sat sp
 | .mp o=>bif keep o then .mp o else .any
 | .any=>.any
def AV.viewL(keep:Nat→Bool)(h:Nat→Slot):List AV→List AV
 | []=>[]
 |c::cs=>c.view keep h::AV.viewL keep h cs
end
theorem zcs{w:World}{B:Nat}{e:TypeId}{size n:Nat}{v:Value}{us:List Value}(h:zkj w B e size v n us){b:Nat}(hb:blk v=some b):w.rangeAt b 0 us:=by
 rcases h.2 with⟨rfl,_⟩|⟨g,cap,cur,fz,rfl,_,hh,_,_,_,_,rfl⟩
 ·simp[blk]at hb
 ·obtain rfl:g=b:=qav;intro j x hj;rw[qbO,cell_of_row w g j cur e fz hh];rw[qbR]at hj
  split at hj
  ·simpa using hj
  ·cases hj
theorem zc6{w:World}{b:Nat}{us:List Value}{ty:TypeId}(h:w.heap[b]?=some (.cells us.toArray ty (0,0))):w.rangeAt b 0 us:=by
 intro j x hj;rw[qbO,cell_of_row w b j us.toArray ty (0,0) h];simpa using hj
theorem zgb{w:World}{b off k:Nat}{us:List Value}(h:w.rangeAt b 0 us):w.rangeAt b off ((us.drop off).take k):=by
 intro j x hj;rw[qbR]at hj
 split at hj
 ·rw[qbF]at hj;have:=h (off+j) x hj
  rwa [qbO]at this
 ·cases hj
section
variable {B:Nat}{S T:Nat→Prop}{m m':Nat→Option Value}{w:World}{h:Nat→Slot}{keep:Nat→Bool}
theorem zen(hO:∀o ob,h o=.live ob→∃v,m o=some v∧ORep B S m w ob v)(hS:∀b,S b→T b){o:Nat}(hT:∀ob v b,h o=.live ob→m o=some v→blk v=some b→T b){off n size:Nat}{u:Value}(hr:Rep S m w (.psl o off n size) u):Rep T m' w (zcI (h o) off n size) u:=by
 simp only[Rep]at hr;obtain⟨a,cap,rfl,h2,h3⟩:=hr
 have key:∀(cs:List PV) (us:List Value) (ob:AObj) (v:Value),h o=.live ob→m o=some v→PRepL S w cs us→(∀b,blk v=some b→w.rangeAt b 0 us)→off+n*size≤cs.length→
  Rep T m' w (.p (.sl n size ((cs.drop off).take (n*size)))) (.slice a n cap):=by
  intro cs us ob v hob hv hp hrange hlen;simp only[Rep,PRep];refine⟨a,cap,(us.drop off).take (n*size),rfl,h2,by rw[List.length_take,qbH];omega,?_,?_⟩
  ·exact PRepL.mono hS (fun _ _=>rfl) _ _ ((hp.drop off).take _)
  ·rcases h3 with h3|⟨b,v0,h4,h5,h6⟩
   ·exact .inl h3
   ·rw[hv]at h4;obtain rfl:=Option.some.inj h4;exact .inr ⟨b,off,h6,hT ob v b hob hv h5,zgb (hrange b h5)⟩
 unfold zcI;cases hs:h o with
 |un=>simp only[Rep]
 |dead=>simp only[Rep]
 |live ob=>
  obtain⟨v,h4,h5⟩:=hO o ob hs;cases ob with
  |row e sz n' cs=>
   simp only[]
   split
   ·rename_i hlen;obtain⟨us,h6,h7⟩:=h5;exact key cs us _ v hs h4 h6 (fun b hb=>zcs h7 hb) hlen
   ·simp only[Rep]
  |box ty cs=>
   simp only[]
   split
   ·rename_i hlen;obtain⟨b,us,rfl,h6,h7,h8,h9⟩:=h5;rw[←zjM hlen.2]at h7
    exact key _ us _ _ hs h4 (zcQ h7) (fun b' hb' => by obtain rfl : b = b' := by simpa [blk] using hb'
                                                        exact zc6 h9) (by rw[List.length_map];exact hlen.1)
   ·simp only[Rep]
  |map es=>simp only[Rep]
  |rowA=>simp only[Rep]
theorem zfE(hO:∀o ob,h o=.live ob→∃v,m o=some v∧ORep B S m w ob v)(hS:∀b,S b→T b)
 {o:Nat} (hT:∀ob v b,h o=.live ob→m o=some v→blk v=some b→T b) {u:Value} (hr:Rep S m w (.row o) u):Rep T m' w (zhT (h o)) u:=by
 simp only[Rep]at hr;replace hr:=hr.1;unfold zhT;cases hs:h o with
 |un=>simp only[Rep]
 |dead=>simp only[Rep]
 |live ob=>
  obtain⟨v,h4,h5⟩:=hO o ob hs;rw[hr]at h4;obtain rfl:=Option.some.inj h4;cases ob with
  |row e sz n' cs=>
   simp only[Rep,PRep];obtain⟨us,h6,h7⟩:=h5;have hl:=h6.length;have hr2:=fun b hb=>zcs h7 (b:=b) hb
   rcases h7.2 with⟨rfl,rfl⟩|⟨g,cap,cur,fz,rfl,_,hh,_,h8,h9,_,h10⟩
   ·exact⟨none,0,us,rfl,Nat.le_refl _,by rw[←hl,h7.1],PRepL.mono hS (fun _ _=>rfl) _ _ h6,.inl rfl⟩
   ·exact⟨some ⟨g,0,none⟩,cap,us,rfl,h8,by rw[←hl,h7.1],PRepL.mono hS (fun _ _=>rfl) _ _ h6,.inr ⟨g,0,rfl,hT _ _ g hs hr rfl,hr2 g rfl⟩⟩
  |box ty cs=>simp only[Rep]
  |map es=>simp only[Rep]
  |rowA=>simp only[Rep]
end
section
variable {B:Nat}{S T:Nat→Prop}{m m':Nat→Option Value}{w:World}{h:Nat→Slot}{keep:Nat→Bool}
mutual
theorem view_rep(hO:∀o ob,h o=.live ob→∃v,m o=some v∧ORep B S m w ob v)(hS:∀b,S b→T b)
 (hP:∀o off n size u,keep o=false→Rep S m w (.psl o off n size) u→Rep T m' w (zcI (h o) off n size) u) (hR:∀o u,keep o=false→Rep S m w (.row o) u→Rep T m' w (zhT (h o)) u)
 (hM:∀o v,keep o=true→m o=some v→m' o=some v):∀(x:AV) (u:Value),Rep S m w x u→Rep T m' w (x.view keep h) u
 | .p x,u,hr=>by
  simp only[AV.view,Rep]at hr⊢;exact PRep.mono hS (fun _ _=>rfl) _ _ hr
 | .agg cs,u,hr=>by
  simp only[AV.view,Rep]at hr⊢;obtain⟨us,h1,h2,h3⟩:=hr;exact⟨us,h1,zd0 hO hS hP hR hM cs us h2,h3⟩
 | .tup cs,u,hr=>by
  simp only[AV.view,Rep]at hr⊢;obtain⟨us,h1,h2⟩:=hr;exact⟨us,h1,zd0 hO hS hP hR hM cs us h2⟩
 | .ptr cs,u,hr=>by
  simp only[AV.view,Rep]at hr⊢;obtain⟨b,off,vs,h1,h2,h3,h4⟩:=hr;exact⟨b,off,vs,h1,hS b h2,PRepL.mono hS (fun _ _=>rfl) _ _ h3,h4⟩
 | .ref o off,u,hr=>by simp only[AV.view,Rep]
 | .row o,u,hr=>by
  simp only[AV.view];cases hk:keep o with
  |true=>
   simp only[cond_true,Rep]at hr⊢;exact⟨hM o u hk hr.1,hr.2⟩
  |false=>exact hR o u hk hr
 | .psl o off n size,u,hr=>by
  simp only[AV.view];cases hk:keep o with
  |true=>
   simp only[cond_true,Rep]at hr⊢;obtain⟨a,cap,h1,h2,h3⟩:=hr;refine⟨a,cap,h1,h2,?_⟩;rcases h3 with h3|⟨b,v0,h4,h5,h6⟩
   ·exact .inl h3
   ·exact .inr ⟨b,v0,hM _ _ hk h4,h5,h6⟩
  |false=>exact hP o off n size u hk hr
 | .pslc o n,u,hr=>by
  simp only[AV.view];cases hk:keep o with
  |true=>
   simp only[cond_true,Rep]at hr⊢;obtain⟨a,n0,c,h1,h2⟩:=hr;exact⟨a,n0,c,hM _ _ hk h1,h2⟩
  |false=>simp only[cond_false,Rep]
 | .fn f cs,u,hr=>by
  simp only[AV.view,Rep]at hr⊢;obtain⟨us,h1,h2⟩:=hr;exact⟨us,h1,zd0 hO hS hP hR hM cs us h2⟩
 | .mb b x,u,hr=>by simp only[AV.view,Rep]
 | .sat sp,u,hr=>by simpa only[AV.view,Rep]using hr
 | .mp o,u,hr=>by
  simp only[AV.view];cases hk:keep o with
  |true=>
   simp only[cond_true,Rep]at hr⊢;exact⟨hM o u hk hr.1,hr.2⟩
  |false=>simp only[cond_false,Rep]
 | .any,u,hr=>by simp only[AV.view,Rep]
theorem zd0(hO:∀o ob,h o=.live ob→∃v,m o=some v∧ORep B S m w ob v)(hS:∀b,S b→T b)
 (hP:∀o off n size u,keep o=false→Rep S m w (.psl o off n size) u→Rep T m' w (zcI (h o) off n size) u) (hR:∀o u,keep o=false→Rep S m w (.row o) u→Rep T m' w (zhT (h o)) u)
 (hM:∀o v,keep o=true→m o=some v→m' o=some v):∀(x:List AV) (u:List Value),RepL S m w x u→RepL T m' w (AV.viewL keep h x) u
 | [],u,hr=>by simpa only[AV.viewL,RepL]using hr
 |c::cs,u,hr=>by
  simp only[AV.viewL,RepL]at hr⊢;obtain⟨u,us,h1,h2,h3⟩:=hr;exact⟨u,us,h1,view_rep hO hS hP hR hM c u h2,zd0 hO hS hP hR hM cs us h3⟩
end
end
def ResOK(w:World)(A:Nat→Prop)(w':World)(res:AV)(news:List (Nat×AObj))(v:Value):Prop:=
 ∃S' m',Rep S' m' w' res v∧Mem w A S' m' (zcT news) w'
def Fn(P:Program)(f:FuncId)(args:List AV)(res:AV)(news:List (Nat×AObj)):Prop:=
 ∀(w:World) (A:Nat→Prop) (us:List Value),(∀b,A b→b<w.heap.size)→GI w→RepL A (fun _=>none) w args us→
  Calls P f us.toArray w fun e w'=>∃v,e=.returned v∧ResOK w A w' res news v
def ziA:Nat→List AV→List (Nat×AV)
 |_,[]=>[]
 |k,x::l=>(k,x)::ziA (k+1) l
inductive ResIs(P:Program)(st:St):List ResultVar→List AV→Prop
 |nil:ResIs P st [] []
 |tmp (t:Tmp) (l:List ResultVar) (x:AV) (xs:List AV):st.tmps t=x→ResIs P st l xs→ResIs P st (.tmp t::l) (x::xs)
 |cellN (a:Tmp) (t:TypeId) (l:List ResultVar) (o:Nat) (bt:TypeId) (cs:List AV) (ds:TypeDesc) (xs:List AV) (k:Nat):st.tmps a=.ref o 0→st.heap o=.live (.box bt cs)→P.underlying t=some ds→ds.isRow=true→(P.info? t).map (·.size)=some k→cs.length=k→
  ResIs P st l xs→ResIs P st (.cell a t::l) (.agg cs::xs)
 |cell1 (a:Tmp) (t:TypeId) (l:List ResultVar) (o:Nat) (bt:TypeId) (c:AV) (ds:TypeDesc) (xs:List AV):st.tmps a=.ref o 0→st.heap o=.live (.box bt [c])→P.underlying t=some ds→ds.isRow=false→ResIs P st l xs→ResIs P st (.cell a t::l) (c::xs)
def oneV:List Value→Value
 | [x]=>x
 |xs=>.tuple xs.toArray
def oneA:List AV→AV
 | [x]=>x
 |xs=>.tup xs
def zgj(ρ:Nat→Nat)(news:List (Nat×AObj))(o:Nat):Bool:=(news.map fun p=>ρ p.1).elem o
structure Fin(P:Program)(rs:List ResultVar)(res:AV)(news:List (Nat×AObj))(e:Exit)(st:St):Prop where
 ends:e=.normal∨e=.ret
 ex:∃(vals:List AV) (ρ:Nat→Nat),ResIs P st rs vals∧(oneA vals).view (zgj ρ news) st.heap=res.ren ρ∧res.okIn (news.map Prod.fst)=true∧LeO ρ st (news.map Prod.fst) news∧zbL (news.map fun p=>ρ p.1)=true
def resF(tmps:Array Value):ResultVar→Sem Value
 | .tmp t=>pure (tmps.getD t undef)
 | .cell a t=>do loadVar t (←asAddr (tmps.getD a undef))
theorem zh9{P:Program}{t:TypeId}{ds:TypeDesc}(hu:P.underlying t=some ds)(w:World):(isAgg t).run P w=.ok ds.isRow w:=by
 unfold isAgg;rw[qbw,run_underlying hu w];cases ds<;>rfl
theorem zeN{P:Program}{w0:World}{A S:Nat→Prop}{m:Nat→Option Value}{st:St}{w:World}{tmps:Array Value}(hm:Mem w0 A S m st.heap w)(ht:∀t,Rep S m w (st.tmps t) (tmps.getD t undef)):
 ∀{rs:List ResultVar} {vals:List AV},ResIs P st rs vals→∃us,(rs.mapM (resF tmps)).run P w=.ok us w∧RepL S m w vals us
 | [],_,.nil=>⟨[],rfl,by simp[RepL]⟩
 |_,_,.tmp t l x xs h1 h2=>by
  obtain⟨us,h3,h4⟩:=zeN hm ht h2;refine⟨tmps.getD t undef::us,?_,by simp only[RepL];exact⟨_,_,rfl,h1▸ht t,h4⟩⟩;simp only[List.mapM_cons,resF,qbw,qbx,qbr,h3]
 |_,_,.cellN a t l o bt cs ds xs k h1 h2 h3 h4 h5 hk h6=>by
  obtain⟨us,h7,h8⟩:=zeN hm ht h6;have ha:=ht a;rw[h1]at ha;simp only[Rep]at ha;obtain⟨b,v0,k1,k2,k3⟩:=ha;obtain⟨v,j1,j2,_⟩:=hm.live o _ h2;rw[k1]at j1;cases j1;obtain⟨b',vs,rfl,_,i1,i2,i3⟩:=j2;obtain rfl:b'=b:=by simpa[blk]using k2
  have hl:=i1.length;have hrun:=run_loadVar_mid (P:=P) w b' 0 t vs ds (zc6 i3) h3 h4 (by rw[h5,hl,hk]);refine⟨.agg vs.toArray::us,?_,by simp only[RepL,Rep];exact⟨_,_,rfl,⟨vs,rfl,i1,i2⟩,h8⟩⟩;simp only[List.mapM_cons,resF,qbw,k3,asAddr,qbx,qbr,hrun,h7]
 |_,_,.cell1 a t l o bt c ds xs h1 h2 h3 h4 h6=>by
  obtain⟨us,h7,h8⟩:=zeN hm ht h6;have ha:=ht a;rw[h1]at ha;simp only[Rep]at ha;obtain⟨b,v0,k1,k2,k3⟩:=ha;obtain⟨v,j1,j2,_⟩:=hm.live o _ h2;rw[k1]at j1;cases j1;obtain⟨b',vs,rfl,_,i1,i2,i3⟩:=j2;obtain rfl:b'=b:=by simpa[blk]using k2
  simp only[RepL]at i1;obtain⟨u,us',rfl,i4,rfl⟩:=i1
  have hc:w.cell? ⟨b',0,none⟩=some u:=by
   have:=zc6 i3 0 u qG;simpa using this
  have hrun:(loadVar t ⟨b',0,none⟩).run P w=.ok u w:=by
   simp only[loadVar,qbw,zh9 h3,h4,qbr,qbJ,if_false,run_load,hc,Sem.run_ite]
  refine⟨u::us,?_,by simp only[RepL];exact⟨_,_,rfl,i4,h8⟩⟩;simp only[List.mapM_cons,resF,qbw,k3,asAddr,qbx,qbr,hrun,h7]
theorem zfF{P:Program}{fn:Func}{tmps:Array Value}{w:World}{us:List Value}(h:(fn.results.toList.mapM (resF tmps)).run P w=.ok us w):
 (results fn tmps).run P w=.ok (oneV us) w:=by
 have e:(fun(r:ResultVar)=>(match r with| .tmp t=>pure (tmps.getD t undef)| .cell a t=>do loadVar t (←asAddr (tmps.getD a undef)):Sem Value))=resF tmps:=by
  funext r
  cases r<;>rfl
 have h2:(fn.results.mapM (resF tmps)).run P w=.ok us.toArray w:=by
  rw[Array.mapM_eq_mapM_toList,Sem.run_map,h];rfl
 unfold results;rw[qbw];have h3:(fn.results.mapM (fun(r:ResultVar)=>(match r with| .tmp t=>pure (tmps.getD t undef)| .cell a t=>do loadVar t (←asAddr (tmps.getD a undef)):Sem Value))).run P w=.ok us.toArray w:=by rw[e];exact h2
 erw [h3]
 match us with
 | []=>rfl
 | [x]=>rfl
 |x::y::l=>simp[oneV]
theorem oneA_rep{S:Nat→Prop}{m:Nat→Option Value}{w:World}{xs:List AV}{us:List Value}(hk:RepL S m w xs us):Rep S m w (oneA xs) (oneV us):=by
 match xs,hk with
 | [],hk=>
  simp only[RepL]at hk;subst hk;exact⟨[],rfl,by simp[RepL]⟩
 | [x],hk=>
  simp only[RepL]at hk;obtain⟨u,us,rfl,h2,rfl⟩:=hk;exact h2
 |x::y::l,hk=>
  have hk':=hk;simp only[RepL]at hk;obtain⟨u,us,rfl,h2,v,vs,rfl,h3⟩:=hk;simp only[oneA,Rep];exact⟨_,rfl,hk'⟩
theorem fin_okJ{w0:World}{A:Ctx}{nt:Nat}{st:St}{a:Act}{w:World}{P:Program}{fn:Func}{res:AV}{news:List (Nat×AObj)}{e:Exit}(hs:Sim w0 A nt st a w)(hf:Fin P fn.results.toList res news e st):
 ∃v,(results fn a.tmps).run P w=.ok v w∧∃S' m',Rep S' m' w res v∧Mem w0 A.A S' m' (zcT news) w∧∃m2,A.J S' m2 w:=by
 obtain⟨⟨S,m,hm,hj,ht⟩,hsz,hd⟩:=hs;obtain⟨_,vals,ρ,hall,h1,h2,h3,h4⟩:=hf;obtain⟨us,hrun,hrep⟩:=zeN hm ht hall;have hr:=oneA_rep hrep;refine⟨_,zfF hrun,?_⟩
 revert hr
 generalize oneV us=v;intro hr;have kk:∀o,zgj ρ news o=true↔∃p∈news,ρ p.1=o:=by intro o;simp[zgj,qbv]
 have hO:∀o ob,st.heap o=.live ob→∃v,m o=some v∧ORep w0.heap.size S m w ob v:=fun o ob ho=>let⟨v,a,b,_⟩:=hm.live o ob ho;⟨v,a,b⟩
 obtain⟨S',hS'⟩:∃S':Nat→Prop,S'=fun b=>S b∨∃o ob v,st.heap o=.live ob∧zgj ρ news o=false∧m o=some v∧blk v=some b:=⟨_,rfl⟩
 have s1:∀b,S b→S' b:=fun b hb=>by rw[hS'];exact .inl hb
 have s2:∀o ob v b,st.heap o=.live ob→zgj ρ news o=false→m o=some v→blk v=some b→S' b:=fun o ob v b g1 g2 g3 g4=>by rw[hS'];exact .inr ⟨o,ob,v,g1,g2,g3,g4⟩
 have g:Grow S m w S' m w:=⟨s1,fun _ _=>rfl,fun _ _ h=>h⟩;refine⟨S',fun o=>if o∈news.map Prod.fst then m (ρ o)else none,?_,⟨hm.bel,?_,?_,?_,?_,?_,hm.gl⟩,m,A.up _ _ _ _ _ _ g hj⟩
 ·refine Rep.unren (K:=news.map Prod.fst) (m:=m) (ρ:=ρ) (fun o ho=>if_pos ho) _ _ h2 ?_;rw[←h1];refine view_rep hO s1 (fun o off n size u hk hr=>?_) (fun o u hk hr=>?_) (fun o v _ h=>h) _ _ hr
  ·exact zen hO s1 (fun ob v b g1 g2 g3=>s2 o ob v b g1 hk g2 g3) hr
  ·exact zfE hO s1 (fun ob v b g1 g2 g3=>s2 o ob v b g1 hk g2 g3) hr
 ·intro b hb;rw[hS']at hb;rcases hb with hb|⟨o,ob,v,g1,g2,g3,g4⟩
  ·exact hm.sA b hb
  ·obtain⟨v',k1,k2,_⟩:=hm.live o ob g1;rw[g3]at k1;cases k1;exact .inr (k2.lt g4).1
 ·intro b hb;rw[hS']at hb;rcases hb with hb|⟨o,ob,v,g1,g2,g3,g4⟩
  ·exact hm.sW b hb
  ·obtain⟨v',k1,k2,_⟩:=hm.live o ob g1;rw[g3]at k1;cases k1;exact(k2.lt g4).2
 ·intro o ho;exact if_neg (zjN ho)
 ·intro o ob ho;have hmem:=zck ho;have hin:o∈news.map Prod.fst:=qbv.2 ⟨_,hmem,rfl⟩;obtain⟨h5,h6⟩:=h3.mem _ hmem;obtain⟨v,h7,h8,h9⟩:=hm.live _ _ h5;have h8':=h8.mono g (fun b _=>rfl);refine⟨v,by simp only[if_pos hin];exact h7,?_,?_⟩
  ·cases ob with
   |box ty cs=>
    obtain⟨b,us,g1,g2,g3,g4,g5⟩:=h8';exact⟨b,us,g1,g2,RepL.unren (K:=news.map Prod.fst) (m:=m) (ρ:=ρ) (fun o ho=>if_pos ho) cs us h6 g3,g4,g5⟩
   |row e size n cs=>exact h8'
   |map es=>exact h8'
   |rowA e size n c cs=>
    obtain⟨us,g1,g2,g3⟩:=h8';exact⟨us,RepL.unren (K:=news.map Prod.fst) (m:=m) (ρ:=ρ) (fun o ho=>if_pos ho) cs us h6 g1,g2,g3⟩
  ·intro b hb hS;rw[hS']at hS;rcases hS with hS|⟨o',ob',v',k1,k2,k3,k4⟩
   ·exact h9 b hb hS
   ·have:=hm.inj _ _ _ _ _ _ _ h5 k1 h7 k3 hb k4;have hkt:zgj ρ news o'=true:=(kk o').2 ⟨_,hmem,this⟩;rw[hkt]at k2;cases k2
 ·intro o o' ob ob' v v' b ho ho' hv hv' hb hb';have g1:=zck ho;have g2:=zck ho';have k1:o∈news.map Prod.fst:=qbv.2 ⟨_,g1,rfl⟩;have k2:o'∈news.map Prod.fst:=qbv.2 ⟨_,g2,rfl⟩;simp only[if_pos k1]at hv;simp only[if_pos k2]at hv';have:=hm.inj _ _ _ _ _ _ _ (h3.mem _ g1).1 (h3.mem _ g2).1 hv hv' hb hb';exact zfj h4 _ g1 _ g2 this
theorem zia:∀(l:List AV) (k t:Nat),zgi (ziA k l) t=if k≤t then l.getD (t-k) .any else .any
 | [],k,t=>by simp[ziA,zgi]
 |x::l,k,t=>by
  simp only[ziA,zgi]
  by_cases h:t=k
  ·subst h;simp
  ·simp only[nbeq h,cond_false];rw[zia l (k+1) t]
   by_cases hk:k≤t
   ·have h1:k+1≤t:=qp;rw[if_pos hk,if_pos h1];obtain⟨d,rfl⟩:∃d,t=k+1+d:=⟨t-(k+1),qp⟩;rw[show k+1+d-k=d+1 by omega,show k+1+d-(k+1)=d by omega];simp
   ·rw[if_neg hk,if_neg (by omega)]
theorem fin_ok{w0:World}{A:Ctx}{nt:Nat}{st:St}{a:Act}{w:World}{P:Program}{fn:Func}{res:AV}{news:List (Nat×AObj)}{e:Exit}(hs:Sim w0 A nt st a w)(hf:Fin P fn.results.toList res news e st):
 ∃v,(results fn a.tmps).run P w=.ok v w∧ResOK w0 A.A w res news v:=
 let⟨v,h,S',m',h1,h2,_⟩:=fin_okJ hs hf
 ⟨v,h,S',m',h1,h2⟩
theorem zb0{P:Program}{f:FuncId}{fn:Func}{c:Code}{args:List AV}{res:AV}{news:List (Nat×AObj)}(hf:P.funcs[f]?=some fn)(hb:fn.body=some c)(hn:args.length≤fn.ntmps)
 (h:∀w0 A,awp ⟨P,w0,ctx0 A,fn.ntmps⟩ c (Fin P fn.results.toList res news) (St.of (ziA 0 args) [])):Fn P f args res news:=by
 intro w A us hA hG hr;refine calls_of_wp hf hb ?_;have hl:=hr.length;refine wp_mono (h w (ctx1 A) _ w ⟨⟨A,fun _=>none,⟨Below.refl _ _,fun b hb=>.inl hb,hA,fun o _=>rfl,fun o ob ho=>qaN,fun o o' ob ob' v v' b ho=>qaN,hG⟩,trivial,fun t=>?_⟩,?_,rfl⟩) ?_
 ·show Rep A _ w (zgi (ziA 0 args) t) _;exact jaa
 ·simp only[Array.size_append,qcF,Array.size_replicate];omega
 ·rintro e a w' ⟨st,h1,h2⟩;obtain⟨v,hrun,hok⟩:=fin_ok h2 h1;rcases h1.ends with rfl|rfl
  ·exact⟨h2.defers,_,hrun,_,rfl,hok⟩
  ·exact⟨h2.defers,_,hrun,_,rfl,hok⟩
end Go.Proofs.YtdiljgkijgiboaaGreatDoor
