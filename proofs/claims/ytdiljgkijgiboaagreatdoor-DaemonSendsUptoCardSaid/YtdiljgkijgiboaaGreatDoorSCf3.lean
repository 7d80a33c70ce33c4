/- Used. -/
import Derived.MapKept
import Derived.Test.YtdiljgkijgiboaaGreatDoorSTc2
import Derived.Test.YtdiljgkijgiboaaGreatDoorSFr
set_option linter.all false
set_option maxRecDepth 100000
set_option maxHeartbeats 16000000
namespace Go.Proofs.YtdiljgkijgiboaaGreatDoor
open Go.RowKit Go.Sort
def zeY(d:TypeDesc)(k:Value):List (Value×Value)→Nat→Option (Option (Nat×Value))
 | [],_=>some none
 |e::l,i=>match Instr.sameNow d k e.1 with
  |some true=>some (some (i,e.2))
  |some false=>zeY d k l (i+1)
  |none=>none
theorem zgq(d:TypeDesc)(k:Value):∀(l:List MapEntry) (i:Nat),Instr.findNow d k l i=zeY d k (l.map fun e=>(e.key,e.val)) i
 | [],_=>rfl
 |e::l,i=>by
  simp only[Instr.findNow,zeY,qbu];rw[zgq d k l (i+1)];rfl
def zdI:TypeDesc→Bool
 | .int _=>true
 | .bool=>true
 | .string=>true
 |_=>false
theorem zdY{P:Program}{t:TypeId}{kd:TypeDesc}(hk:P.underlying t=some kd)(hp:zdI kd=true)(b:Bool)(v:Value)(w:World):(Instr.checkKey b 10000 t v).run P w=.ok () w:=by
 show(Instr.checkKey b (9999+1) t v).run P w=.ok () w;generalize 9999=d;cases kd<;>simp only[zdI,qbJ]at hp<;>simp[Instr.checkKey,run_underlying hk]
section
variable {P:Program}{d:Option Tmp}{ty:TypeId}{pos:String}{af:Array Edge}{g:Option (Nat×Bool)}
theorem a_makeMap{t:TypeId}(n:Nat):AOp P ⟨d,.makeMap t none,ty,pos,af,g⟩ [] [(n,.un)] [(n,.live (.map []))] (.mp n):=by
 intro w0 A S m heap w ev hm hR hrd;have hd:heap n=.un:=rd1 hrd
 have hrun:(execOp ev ⟨d,.makeMap t none,ty,pos,af,g⟩).run P w=.ok (.value (.map (some w.heap.size))) (w.alloc (.map #[] 0)):=by
  simp[execOp,Instr.makeMap]
 unfold Out;rw[hrun];have hb:Below w.heap.size w (w.alloc (.map #[] 0)):=(Below.refl _ _).alloc (Nat.le_refl _) _;have hg:=zey hm hb hd (.map (some w.heap.size))
 obtain⟨k1,k2⟩:=zev hm hb n hd (.map (some w.heap.size)) (.map []) (fun b hb=>by simp[blk]at hb;omega)
  ⟨w.heap.size,#[],0,rfl,hm.hB,by simpa using heap_alloc_new w (.map #[] 0),rfl⟩
 exact⟨S,_,by simp only[Rep];exact⟨by simp[setM],_,rfl⟩,k1,k2⟩
theorem mapSet_new{t kt et:TypeId}{kd:TypeDesc}{o:Nat}{kv xv:Value}{es:List (Value×Value)}(hu:P.underlying t=some (.map kt et))(hk:P.underlying kt=some kd)(hp:zdI kd=true)(hf:zeY kd kv es 0=some none)
 {w0:World} {A S:Nat→Prop} {m:Nat→Option Value} {heap:Nat→Slot} {w:World} (hm:Mem w0 A S m heap w) (ho:heap o=.live (.map es)) {mv:Value} (hv:Rep S m w (.mp o) mv):
 ∃w',(Instr.mapUpdate t mv kv xv).run P w=.ok () w'∧Mem w0 A S m (updL heap [(o,.live (.map (es++[(kv,xv)])))]) w'∧Grow S m w S m w':=by
 simp only[Rep]at hv;obtain⟨hx,r,rfl⟩:=hv;obtain⟨v,k1,k2,k3⟩:=hm.live o _ ho;rw[hx]at k1;cases k1;obtain⟨r',arr,ck,e1,g1,g2,g3⟩:=k2;obtain rfl:r'=r:=by simpa using e1.symm
 have hnow:Instr.findNow kd kv arr.toList 0=some none:=qbd;have hfk:=MapKept.run_findKey (w:=w) hk hnow;have hck:=zdY hk hp false kv w;have hlt:r'<w.heap.size:=(qbK.1 g2).1;refine⟨{w with heap:=w.heap.setIfInBounds r' (.map (arr.push {key:=kv,val:=xv,born:=ck}) (ck+1))},?_,?_⟩
 ·exact jcC
 ·have q5:∀k,k≠r'→(w.heap.setIfInBounds r' (.map (arr.push {key:=kv,val:=xv,born:=ck}) (ck+1)))[k]?=w.heap[k]?:=fun k hk=>by
   rw[qcs (Ne.symm hk)]
  exact zhw hm (w':={w with heap:=w.heap.setIfInBounds r' (.map (arr.push {key:=kv,val:=xv,born:=ck}) (ck+1))}) (ob':=.map (es++[(kv,xv)])) (v:=.map (some r')) ho hx rfl rfl rfl rfl qG q5
   ⟨r',arr.push {key:=kv,val:=xv,born:=ck},ck+1,rfl,g1,by simp[hlt],by simp[g3]⟩
theorem zix{t kt et:TypeId}{kd:TypeDesc}{o:Nat}{kv xv:Value}{es:List (Value×Value)}{x y z:Operand}(hu:P.underlying t=some (.map kt et))(hk:P.underlying kt=some kd)(hp:zdI kd=true)(hf:zeY kd kv es 0=some none):
 AOp P ⟨d,.mapUpdate t x y z,ty,pos,af,g⟩ [.mp o,.p (.v kv),.p (.v xv)] [(o,.live (.map es))] [(o,.live (.map (es++[(kv,xv)])))] .any:=by
 intro w0 A S m heap w ev hm hR hrd;obtain⟨h1,h2,h3⟩:=ziy (u:=ev x) (v:=ev y) (t:=ev z) hR;obtain⟨w',hrun,q1,q2⟩:=mapSet_new (xv:=xv) hu hk hp hf hm (rd1 hrd) h1;exact jbP
theorem mapSet_old{t kt et:TypeId}{kd:TypeDesc}{o i:Nat}{kv xv ov:Value}{es:List (Value×Value)}(hu:P.underlying t=some (.map kt et))(hk:P.underlying kt=some kd)(hp:zdI kd=true)(hq:MapKept.IsKey kd kv)(hf:zeY kd kv es 0=some (some (i,ov)))(hi:es[i]?=some (kv,ov))
 {w0:World} {A S:Nat→Prop} {m:Nat→Option Value} {heap:Nat→Slot} {w:World} (hm:Mem w0 A S m heap w) (ho:heap o=.live (.map es)) {mv:Value} (hv:Rep S m w (.mp o) mv):
 ∃w',(Instr.mapUpdate t mv kv xv).run P w=.ok () w'∧Mem w0 A S m (updL heap [(o,.live (.map (es.set i (kv,xv))))]) w'∧Grow S m w S m w':=by
 simp only[Rep]at hv;obtain⟨hx,r,rfl⟩:=hv;obtain⟨v,k1,k2,k3⟩:=hm.live o _ ho;rw[hx]at k1;cases k1;obtain⟨r',arr,ck,e1,g1,g2,g3⟩:=k2;obtain rfl:r'=r:=by simpa using e1.symm
 have hnow:Instr.findNow kd kv arr.toList 0=some (some (i,ov)):=qbd;have hfk:=MapKept.run_findKey (w:=w) hk hnow;have hck:=zdY hk hp false kv w;have hlt:r'<w.heap.size:=(qbK.1 g2).1
 have hai:∃e,arr[i]?=some e∧e.key=kv:=by
  rw[←g3,qbM]at hi;simp only[qcK,Prod.mk.injEq]at hi;obtain⟨e,h1,h2,h3⟩:=hi;exact⟨e,by rw[←Array.getElem?_toList];exact h1,h2⟩
 obtain⟨e,he,hek⟩:=hai;have hst:=MapKept.run_keyThatStays (P:=P) (w:=w) hq
 have hnew:(arr.modify i fun e=>{e with key:=kv,val:=xv}).toList.map (fun e=>(e.key,e.val))=es.set i (kv,xv):=by
  rw[←g3];apply qcG;intro j;rw[qbM,List.getElem?_set,Array.getElem?_toList,Array.getElem?_modify]
  by_cases hj:i=j
  ·subst hj;have hlt2:i<arr.size:=(qbK.1 he).1;simp[he,hlt2]
  ·simp[hj]
 refine⟨{w with heap:=w.heap.setIfInBounds r' (.map (arr.modify i fun e=>{e with key:=kv,val:=xv}) ck)},?_,?_⟩
 ·simp only[Instr.mapUpdate,qbw,run_underlying hu,qbr,MapKept.run_getObj_map g2,hck,hfk,he,qcx,Option.getD_some,hek,hst];exact MapKept.run_setObj_map _ g2
 ·have q5:∀k,k≠r'→(w.heap.setIfInBounds r' (.map (arr.modify i fun e=>{e with key:=kv,val:=xv}) ck))[k]?=w.heap[k]?:=fun k hk=>by
   rw[qcs (Ne.symm hk)]
  exact zhw hm (w':={w with heap:=w.heap.setIfInBounds r' (.map (arr.modify i fun e=>{e with key:=kv,val:=xv}) ck)}) (ob':=.map (es.set i (kv,xv))) (v:=.map (some r')) ho hx rfl rfl rfl rfl qG q5
   ⟨r',arr.modify i fun e=>{e with key:=kv,val:=xv},ck,rfl,g1,by simp[hlt],hnew⟩
theorem a_mapUpdateO{t kt et:TypeId}{kd:TypeDesc}{o i:Nat}{kv xv ov:Value}{es:List (Value×Value)}{x y z:Operand}(hu:P.underlying t=some (.map kt et))(hk:P.underlying kt=some kd)(hp:zdI kd=true)(hq:MapKept.IsKey kd kv)(hf:zeY kd kv es 0=some (some (i,ov)))(hi:es[i]?=some (kv,ov)):
 AOp P ⟨d,.mapUpdate t x y z,ty,pos,af,g⟩ [.mp o,.p (.v kv),.p (.v xv)] [(o,.live (.map es))] [(o,.live (.map (es.set i (kv,xv))))] .any:=by
 intro w0 A S m heap w ev hm hR hrd;obtain⟨h1,h2,h3⟩:=ziy (u:=ev x) (v:=ev y) (t:=ev z) hR;obtain⟨w',hrun,q1,q2⟩:=mapSet_old (xv:=xv) hu hk hp hq hf hi hm (rd1 hrd) h1;exact jbP
def gotV(z:Value):Option (Nat×Value)→Value
 |some p=>p.2
 |none=>z
theorem a_lookup{t kt et:TypeId}{kd:TypeDesc}{o:Nat}{kv z r:Value}{f:Option (Nat×Value)}{es:List (Value×Value)}{x y:Operand}(hu:P.underlying t=some (.map kt et))(hk:P.underlying kt=some kd)(hp:zdI kd=true)
 (hz:(P.info? et).map (·.zero)=some (some z)) (hf:zeY kd kv es 0=some f) (hr:gotV z f=r) (h1:r.oneCell'=true):
 AOp P ⟨d,.lookup t x y false,ty,pos,af,g⟩ [.mp o,.p (.v kv)] [(o,.live (.map es))] [] (.p (.v r)):=
 zbQ fun w0 A S m heap w ev hm hR hrd=>by
  obtain⟨q1,q2⟩:=zb9 (u:=ev x) (v:=ev y) hR;have ho:=rd1 hrd;simp only[Rep]at q1;obtain⟨hx,b,hb⟩:=q1;obtain⟨v,k1,k2,k3⟩:=hm.live o _ ho;rw[hx]at k1;cases k1;obtain⟨r',arr,ck,e1,g1,g2,g3⟩:=k2;have hnow:Instr.findNow kd kv arr.toList 0=some f:=qbd;have hfk:=MapKept.run_findKey (w:=w) hk hnow;have hck:=zdY hk hp arr.isEmpty kv w
  have hzv:(zeroValue et).run P w=.ok z w:=by
   cases hq:P.info? et with
   |none=>simp[hq]at hz
   |some i=>
    simp[hq]at hz;simp[zeroValue,typeInfo,hq,hz]
  refine⟨r,?_,za7 h1⟩;simp only[execOp,e1,zbb q2,Instr.lookup,qbw,run_underlying hu,qbr,MapKept.run_getObj_map g2,hck,hfk,qbx];cases f with
  |none=>simp only[qbw,hzv,qbr,qbx,qbJ,if_false];rw[←hr];rfl
  |some p=>simp only[qbw,qbr,qbx,qbJ,if_false];rw[←hr];rfl
end
end Go.Proofs.YtdiljgkijgiboaaGreatDoor
namespace Go.Proofs.YtdiljgkijgiboaaGreatDoor
open Tryz
open Go.RowKit Go.Sort
def mpE(D:List Int):List (Value×Value):=D.map fun n=>(.int .i64 n,.bool true)
theorem zhv{n:Int}:∀{D:List Int} (k:Nat),n∉D→zeY (.int .i64) (.int .i64 n) (mpE D) k=some none
 | [],_,_=>rfl
 |x::D,k,h=>by
  have h1:n≠x:=fun e=>h (by simp[e])
  have ih:=zhv (n:=n) (D:=D) (k+1) fun hh=>h (by simp[hh])
  show zeY (.int .i64) (.int .i64 n) ((.int .i64 x,.bool true)::mpE D) k=_;simp only[zeY,Instr.sameNow,if_true];rw[show(n==x)=false by simpa using h1];exact ih
theorem zjK{n:Int}:∀{D:List Int} (k:Nat),n∈D→∃i,zeY (.int .i64) (.int .i64 n) (mpE D) k=some (some (k+i,.bool true))∧(mpE D)[i]?=some (.int .i64 n,.bool true)
 | [],_,h=>by cases h
 |x::D,k,h=>by
  by_cases e:n=x
  ·subst e;refine⟨0,?_,rfl⟩;show zeY (.int .i64) (.int .i64 n) ((.int .i64 n,.bool true)::mpE D) k=_;simp[zeY,Instr.sameNow]
  ·have h':n∈D:=by simpa[e]using h
   obtain⟨i,h1,h2⟩:=zjK (n:=n) (D:=D) (k+1) h';refine⟨i+1,?_,by simpa[mpE]using h2⟩;show zeY (.int .i64) (.int .i64 n) ((.int .i64 x,.bool true)::mpE D) k=_;simp only[zeY,Instr.sameNow,if_true];rw[show(n==x)=false by simpa using e];rw[show k+(i+1)=k+1+i by omega];exact h1
theorem set_same{α:Type}{l:List α}{i:Nat}{x:α}(h:l[i]?=some x):l.set i x=l:=by
 exact jct
theorem kE_nn{k:KY}(h:kE k=0):0≤k.mine:=by
 cases hl:k.live with
 |true=>have:=(zea h hl).1;omega
 |false=>
  unfold kE at h;rw[if_pos hl]at h
  split at h
  ·rename_i hz;rw[KY.zero_iff]at hz;rw[hz];exact qda 0
  ·cases h
theorem hsE_nn{x:HS}(h:hsE x=0):0≤x.mine:=by
 unfold hsE at h
 split at h
 ·split at h
  ·omega
  ·cases h
 ·split at h
  ·cases h
  ·split at h
   ·exact jdd
   ·split at h
    ·cases h
    ·omega
theorem stE_good{s:ST}(h:stE s=0):keyE s.key=0∧∀n∈zbo s,0≤n:=by
 unfold stE at h
 split at h
 ·exact jdd
 rename_i h1
 split at h
 ·exact jdd
 rename_i h2
 split at h
 ·exact jdd
 rename_i h3;have h2:ksE s.a s.b s.c=0:=qbq.1 h2;have h3:hsE s.h=0:=qbq.1 h3;have hk:=zfp h2;refine⟨qbq.1 h1,fun n hn=>?_⟩;simp only[zbo,qbA,qcB,or_false]at hn;rcases hn with rfl|rfl|rfl|rfl
 ·exact kE_nn (hk 0 qp)
 ·exact kE_nn (hk 1 qp)
 ·exact kE_nn (hk 2 qp)
 ·exact hsE_nn h3
theorem given_s(s:ST):Fn prog 113 [.agg s.cells] (.row 0) [(0,.row 3 1 4 (is (zbo s)))]:=by
 show Fn prog _ _ _ [(0,.row 3 1 4 [qh s.a.mine,qh s.b.mine,qh s.c.mine,qh s.h.mine])];refine fnI fun w0 A=>?_
 refine G [22] ?_;refine zab (xs:=[qd s.a.mine,qd s.b.mine,qd s.c.mine,qd s.h.mine]) (zae (es:=[qd s.a.mine,qd s.b.mine,qd s.c.mine,qd s.h.mine]) (cs:=[qh s.a.mine,qh s.b.mine,qh s.c.mine,qh s.h.mine]) 18 U147 sz3 zc3 (qbk rfl) (qbk rfl) rfl qq qq qq (qbk rfl)) qF rfl ⟨rfl,trivial⟩ ?_;refine jd4 ?_;refine yT (fun _=>18) ?_ ?_
 ·exact rfl
 ·exact jbn
section
variable {P:Program}{d:Option Tmp}{ty:TypeId}{pos:String}{af:Array Edge}{g:Option (Nat×Bool)}
theorem a_mapKeep{t kt et:TypeId}{kd:TypeDesc}{o i:Nat}{kv ov:Value}{es:List (Value×Value)}{x y z:Operand}(hu:P.underlying t=some (.map kt et))(hk:P.underlying kt=some kd)(hp:zdI kd=true)(hq:MapKept.IsKey kd kv)(hf:zeY kd kv es 0=some (some (i,ov)))(hi:es[i]?=some (kv,ov)):
 AOp P ⟨d,.mapUpdate t x y z,ty,pos,af,g⟩ [.mp o,.p (.v kv),.p (.v ov)] [(o,.live (.map es))] [(o,.live (.map es))] .any:=by
 have h:=a_mapUpdateO (d:=d) (ty:=ty) (pos:=pos) (af:=af) (g:=g) (x:=x) (y:=y) (z:=z) (xv:=ov) (o:=o) hu hk hp hq hf hi
 rwa [set_same hi]at h
end
theorem key_ne:¬keyE ⟨#[]⟩=0:=qaS
def lastK(l:List ST)(i:Nat):ByteArray:=if i=0 then⟨#[]⟩else(stG l (i-1)).key
theorem refStates_s(l:List ST)(ok:∀s∈l,s.OK)(hn:l.length≤1048576):Fn prog 66 [ql l.length 41 (l.flatMap ST.pv)] (qd (stsE l)) []:=by
 obtain⟨E,hE⟩:∃E,stsE l=E:=⟨_,rfl⟩;rw[hE];unfold stsE at hE;refine fnI fun w0 A=>?_
 refine G [11,9,0] ?_;refine cX ?_ ?_<;>intro h
 ·exact jcl
 have h6:¬6<l.length:=qw;clear h;rw[if_neg h6]at hE;refine G [3] ?_;refine jf0 (a_makeMap 13) ?_;refine G [14] ?_;refine zag (fun m st=>∃i:Nat,m+i=l.length∧(∀j,j<i→zft l j=0)∧∃D:List Int,(∀n,n∈D↔n∈allN l i)∧st=St.of [(3,.mp 13),(4,qc (lastK l i)),(14,ql l.length 41 (l.flatMap ST.pv)),(15,qd l.length),(16,qd i)] [(13,.map (mpE D))]) l.length ?_ ?_
 ·refine⟨_,zai id _ _ ?_ ?_ rfl,0,qp,qp,[],by simp[allN],rfl⟩
  ·exact jap
  ·exact jbn
 rintro m st ⟨i,hi,hf,D,hD,rfl⟩;refine G [5] ?_;refine cX ?_ ?_<;>intro h
 ·have hlt:i<l.length:=qw;clear h;obtain⟨s,hs⟩:=qo hlt;have hch:=zav (f:=ST.pv) (k:=41) (fun _=>rfl) hs;have hle:=zaw (f:=ST.pv) (k:=41) (fun _=>rfl) hlt;have hok:=ok s (qbo hs);have hC:=refState_s s hok;have hhit:=@zcx (zft l) i l.length hf hlt;have hst:zft l i=if stE s≠0 then stE s else if 0<i∧leK s.key (stG l (i-1)).key=true then 6 else if dupB (allN l i) (zbo s)=true then 6 else 0:=by unfold zft;rw[stG_at hs]
  have hgood:=@stE_good s;have hlK:lastK l i=if i=0 then⟨#[]⟩else(stG l (i-1)).key:=rfl
  have hlN:lastK l (i+1)=s.key:=by unfold lastK;rw[if_neg (by omega),Nat.add_sub_cancel,stG_at hs]
  generalize hL:l.flatMap ST.pv=L at*;generalize stE s=e at*;refine G [6] ?_;refine jd1 ?_;refine jfb ?_;refine jfR ?_;refine cX ?_ ?_<;>intro h
  ·exact jc3
  have h7:e=0:=qB;clear h;rw[if_neg (by simp[h7])]at hst;obtain⟨hkey,hnn⟩:=hgood h7;have hkne:s.key≠⟨#[]⟩:=fun e=>key_ne (by rw[e]at hkey;exact hkey)
  generalize hLK:lastK l i=lk at*;refine G [7] ?_;refine jfZ a_sleq ?_;refine jfg ?_;refine cX ?_ ?_<;>intro h
  ·have h8:leK s.key lk=true:=h
   have hi0:i≠0:=by
    intro e0;rw[if_pos e0]at hlK;rw[hlK]at h8;unfold leK at h8;rw[sLt_empty]at h8;simp at h8;exact hkne h8
   rw[if_neg hi0]at hlK;rw[if_pos ⟨by omega,by rw[←hlK];exact h8⟩]at hst;rw[hhit (by rw[hst];decide),hst]at hE;subst hE;exact jbo
  have h8:¬leK s.key lk=true:=by
   intro h9;have h10:leK s.key lk=false:=h;rw[h10]at h9;cases h9
  clear h
  have hn8:¬(0<i∧leK s.key (stG l (i-1)).key=true):=by
   intro ⟨q1,q2⟩;rw[if_neg (by omega)]at hlK;rw[←hlK]at q2;exact h8 q2
  rw[if_neg hn8]at hst;have hGv:=given_s s;have hgl:(zbo s).length=4:=rfl
  have hnx:allN l (i+1)=allN l i++zbo s:=by
   obtain⟨q1,q2⟩:=qbl.1 hs;unfold allN;rw[qbs q1,q2,qbV];simp
  obtain⟨DD,hDD⟩:∃b,dupB (allN l i) (zbo s)=b:=⟨_,rfl⟩;rw[hDD]at hst;refine G [7] ?_;generalize hG:zbo s=GV at*;refine G [2] ?_;refine jdH ?_;refine cK hGv ?_;refine G [4] ?_;refine zag (fun m' st=>∃j:Nat,m'+j=4∧∃D:List Int,(∀n,n∈D↔n∈allN l i++GV.take j)∧DD=dupB (allN l i++GV.take j) (GV.drop j)∧st=St.of [(3,.mp 13),(4,qc s.key),(14,ql l.length 41 L),(15,qd l.length),(16,qd i),(32,.row 32),(33,qd 4),(34,qd j)] [(13,.map (mpE D)),(32,.row 3 1 4 (is GV))]) 4 ?_ ?_
  ·refine⟨_,zai id _ _ ?_ ?_ rfl,0,qp,D,by simpa using hD,by simpa using hDD.symm,rfl⟩
   ·exact jap
   ·exact jaJ
  clear hD;rintro m' st ⟨j,hj,D,hD,hdp,rfl⟩;refine G [5] ?_;refine cX ?_ ?_<;>intro h
  ·have hlj:j<4:=qw;clear h;obtain⟨n,hn5⟩:∃n,GV[j]?=some n:=⟨GV[j]'qp,List.getElem?_eq_getElem _⟩;have hat:(is GV)[j]?=some (qh n):=by simp[is,hn5]
   have hil:=is_len GV
   have hdr:GV.drop j=n::GV.drop (j+1):=by
    obtain⟨q1,q2⟩:=qbl.1 hn5;rw[qbQ q1,q2]
   have htk:GV.take (j+1)=GV.take j++[n]:=by
    obtain⟨q1,q2⟩:=qbl.1 hn5;exact jda
   have hnz:=hnn n (qbo hn5);rw[hdr,dupB,qby,←htk]at hdp
   have hDk:n∈D→∀k,k∈D↔k∈allN l i++GV.take (j+1):=fun hm k=>by
    rw[htk,←qby,qbD (t:=[n]),←hD k,qbN]
    constructor
    ·exact .inl
    ·rintro(q|q)
     ·exact q
     ·rw[q];exact hm
   have hDn:∀k,k∈D++[n]↔k∈allN l i++GV.take (j+1):=fun k=>by
    rw[htk,←qby,qbD (t:=[n]),qbD (t:=[n]),hD k]
   have hpush:mpE D++[(Value.int .i64 n,Value.bool true)]=mpE (D++[n]):=by simp[mpE]
   have hDm:=hD n;refine G [5] ?_;refine zab (zao U147 sz3 qp qp (show _=j by omega)) rfl rfl ⟨rfl,trivial⟩ ?_;refine jf0 (zaQ U3 rfl hat) ?_;refine G [2] ?_
   by_cases h0:n=0
   ·rw[show(decide (0<n)&&decide (n∈allN l i++List.take j GV)||dupB (allN l i++List.take (j+1) GV) (List.drop (j+1) GV))=dupB (allN l i++List.take (j+1) GV) (List.drop (j+1) GV)by simp[h0]]at hdp;refine G [4,3,7] ?_
    by_cases hm:n∈D
    ·obtain⟨k0,hfd,hfi⟩:=zjK 0 hm;rw[qbO]at hfd;refine G [4] ?_;refine zab (a_mapKeep underlying168 U3 rfl (by simp[MapKept.IsKey]) hfd hfi) rfl rfl ⟨rfl,trivial⟩ ?_;refine jdC ?_;refine⟨m'-1,qp,_,zai id _ _ ?_ ?_ rfl,j+1,qp,D,hDk hm,hdp,rfl⟩
     ·exact jap
     ·exact jaJ
    ·refine G [4] ?_;exact ja8
   ·by_cases hm:n∈D
    ·rw[show(decide (0<n)&&decide (n∈allN l i++List.take j GV)||dupB (allN l i++List.take (j+1) GV) (List.drop (j+1) GV))=true by rw[decide_eq_true (show 0<n by omega),decide_eq_true (hDm.1 hm)];rfl]at hdp;rw[if_pos hdp]at hst;rw[hhit (by rw[hst];decide),hst]at hE;subst hE;obtain⟨k0,hfd,hfi⟩:=zjK 0 hm;rw[qbO]at hfd;refine G [4,4,3] ?_;refine jf0 (a_lookup underlying168 U3 rfl zr4 hfd rfl rfl) ?_;refine G [7] ?_
     exact jaR
    ·rw[show(decide (0<n)&&decide (n∈allN l i++List.take j GV)||dupB (allN l i++List.take (j+1) GV) (List.drop (j+1) GV))=dupB (allN l i++List.take (j+1) GV) (List.drop (j+1) GV)by rw[decide_eq_false (fun q=>hm (hDm.2 q))];simp]at hdp;refine G [4,4,3] ?_;refine jf0 (a_lookup underlying168 U3 rfl zr4 (zhv 0 hm) rfl rfl) ?_;refine G [7] ?_;exact ja8
  have hge:j=4:=qw;clear h;subst hge;rw[qbC (by omega)]at hD hdp;have hz:dupB (allN l i++GV) (GV.drop 4)=false:=by rw[qcM (by omega)];rfl
  rw[hz]at hdp;rw[if_neg (by rw[hdp];decide)]at hst;refine jdC ?_;refine⟨m-1,qp,_,zai id _ _ ?_ ?_ rfl,i+1,qp,fun q hq=>?_,D,by rw[hnx];exact hD,rfl⟩
  ·refine⟨⟨rfl,rfl⟩,⟨?_,rfl⟩,⟨rfl,rfl⟩,⟨rfl,rfl⟩,⟨rfl,rfl⟩,trivial⟩;rw[hlN];rfl
  ·exact jbn
  ·exact jbU
 have hge:i=l.length:=qw;exact jcO
def PQ.OK(p:PQ):Prop:=p.xs.length≤1048576∧isB p.xs
def ST.B(s:ST):Prop:=s.q.length≤1048576∧∀p∈s.q,isB p.xs
theorem PQ.of_ty{n:Nat}{ps:List PV}(h:Ty prog (n+5) 36 ps)(hb:PV.bdL 1048576 ps):∃p:PQ,p.OK∧ps=p.pv:=by
 obtain⟨_,rfl,x0,_,rfl,t0,x1,_,rfl,t1,x2,_,rfl,t2,rfl⟩:=zbu (ts:=[33,33,34]) qq h;obtain⟨a0,rfl,w0⟩:=zbz U33 t0;obtain⟨a1,rfl,w1⟩:=zbz U33 t1;obtain⟨xs,rfl,_,hB⟩:=ty_bytes U34 U5 qq t2;simp only[qbT,List.flatten_nil,List.append_nil,qb3,qbW,qb0,PV.bdL,PV.bd,and_true]at hb;exact⟨⟨a0,a1,xs⟩,⟨hb.2.2.1,hB⟩,rfl⟩
theorem ST.of_tyB{n:Nat}{ps:List PV}(h:Ty prog (n+7) 66 ps)(hb:PV.bdL 1048576 ps):∃s:ST,(s.OK∧s.B)∧ps=s.pv:=by
 obtain⟨_,rfl,x0,_,rfl,t0,x1,_,rfl,t1,x2,_,rfl,t2,x3,_,rfl,t3,x4,_,rfl,t4,rfl⟩:=zbu (ts:=[9,9,61,63,64]) qq h;obtain⟨a0,rfl,_⟩:=zb2 U9 t0;obtain⟨a1,rfl,_⟩:=zb2 U9 t1;obtain⟨_,rfl,y0,_,rfl,u0,y1,_,rfl,u1,y2,_,rfl,u2,rfl⟩:=zbu (ts:=[59,59,59]) qq t2;obtain⟨a,oa,rfl⟩:=KY.of_ty u0;obtain⟨b,ob,rfl⟩:=KY.of_ty u1;obtain⟨c,oc,rfl⟩:=KY.of_ty u2;obtain⟨x,_,_,_,rfl⟩:=HS.of_ty t3;obtain⟨L,rfl,h2,h3⟩:=zf2 (sz:=3) U64 qq t4
 have hbq:=zbK hb;have hb1:=hbq [qg a1] qG;have hb4:=hbq [.sl L.length 3 L.flatten] qG;clear hb hbq;simp only[PV.bdL,PV.bd,and_true]at hb1 hb4
 obtain⟨l,k1,k2,k3⟩:=zgI (f:=PQ.pv) (Q:=PQ.OK) (L:=L) fun x hx=>by
  obtain⟨s,h4,h5⟩:=PQ.of_ty (n:=n) (h3 x hx).1 (zbK hb4.2 x hx);exact⟨s,h4,h5⟩
 have hll:l.length≤1048576:=by rw[k1];exact hb4.1
 refine⟨⟨a0,a1,a,b,c,x,l⟩,⟨⟨?_,oa,ob,oc,hll,fun p hp=>(k3 p hp).1⟩,hll,fun p hp=>(k3 p hp).2⟩,?_⟩
 ·show a1.size<_;omega
 ·simp only[ST.pv,zhQ,k1,k2,qbT,List.flatten_nil,List.append_nil,qby,qb3,qbW,qb0]
theorem ST.of_ty{n:Nat}{ps:List PV}(h:Ty prog (n+7) 66 ps)(hb:PV.bdL 1048576 ps):∃s:ST,s.OK∧ps=s.pv:=by
 obtain⟨s,h1,h2⟩:=ST.of_tyB h hb;exact⟨s,h1.1,h2⟩
theorem ST.list_tyB{n:Nat}{ps:List PV}(h:Ty prog (n+8) 26 ps)(hb:PV.bdL 1048576 ps):∃l:List ST,(∀s∈l,s.OK∧s.B)∧l.length≤1048576∧ps=[.sl l.length 41 (l.flatMap ST.pv)]:=by
 obtain⟨L,rfl,h2,h3⟩:=zf2 (sz:=41) U26 qq h;simp only[PV.bdL,PV.bd,and_true]at hb
 obtain⟨l,k1,k2,k3⟩:=zgI (f:=ST.pv) (Q:=fun s:ST=>s.OK∧s.B) (L:=L) fun x hx=>by
  obtain⟨s,h4,h5⟩:=ST.of_tyB (n:=n) (h3 x hx).1 (zbK hb.2 x hx);exact⟨s,h4,h5⟩
 exact jdg
theorem ST.list_ty{n:Nat}{ps:List PV}(h:Ty prog (n+8) 26 ps)(hb:PV.bdL 1048576 ps):∃l:List ST,(∀s∈l,s.OK)∧l.length≤1048576∧ps=[.sl l.length 41 (l.flatMap ST.pv)]:=by
 obtain⟨l,h1,h2,h3⟩:=ST.list_tyB h hb;exact⟨l,fun s hs=>(h1 s hs).1,h2,h3⟩
end Go.Proofs.YtdiljgkijgiboaaGreatDoor
namespace Go.Proofs.YtdiljgkijgiboaaGreatDoor
open Go.RowKit Go.Sort
theorem same_s(n m:Nat)(xs ys:List Int):Fn Tryz.prog 37 [.p (.sl n 1 (bs xs)),.p (.sl m 1 (bs ys))] (.p (.v (.bool (decide (strOfNums xs=strOfNums ys))))) []:=by
 refine zb0 Tryz.func37 rfl (qbk rfl) fun w0 A=>?_
 refine zad (zaN qq ?_)
 (refine zaa (zaG (r:=.p _)) rfl rfl ?_)
 refine zac (zad (zaN qq ?_))
 (refine zaa (zah (r:=.p _)) rfl rfl ?_)
 (refine zab (zdF Tryz.underlying34 Tryz.underlying5 Tryz.underlying9 (zbc) rfl rfl) rfl rfl trivial ?_)
 (refine zaa (zah (r:=.p _)) rfl rfl ?_)
 (refine zab (zdF Tryz.underlying34 Tryz.underlying5 Tryz.underlying9 (zbc) rfl rfl) rfl rfl trivial ?_)
 (refine zaa zji rfl rfl ?_)
 (refine zaa (zaG (r:=.p _)) rfl rfl ?_)
 refine zac (zaq (⟨qO,_,(fun o=>o),(.tmp _ _ _ _ rfl .nil),?_,rfl,?_,rfl⟩))
 ·exact rfl
 ·exact trivial
def PQ.cells(p:PQ):List AV:=[qe p.a,qe p.b,ql p.xs.length 1 (bs p.xs)]
end Go.Proofs.YtdiljgkijgiboaaGreatDoor
namespace Go.Proofs.YtdiljgkijgiboaaGreatDoor
open Tryz
open Go.RowKit Go.Sort
theorem zgu(n:Nat)(xs:List Int)(hx:xs.length=n)(hn:n≤140737488355328):Fn prog 15 [ql n 1 (bs xs)] (.row 0) [(0,.row 5 1 n (bs xs))]:=by
 exact jaF
theorem zeQ(l:List PQ)(i:Nat)(p:PQ)(h:l[i]?=some p):(l.take i).flatMap PQ.pv++[qi p.a,qi p.b,.sl p.xs.length 1 (bs p.xs)]=(l.take (i+1)).flatMap PQ.pv:=by
 obtain⟨h1,h2⟩:=qbl.1 h;rw[qbs h1,h2,qbV];simp[PQ.pv]
theorem zjo(l:List ST)(i:Nat)(s:ST)(h:l[i]?=some s):(l.take i).flatMap ST.pv++s.pv=(l.take (i+1)).flatMap ST.pv:=by
 obtain⟨h1,h2⟩:=qbl.1 h;exact jb8
theorem tcopy_s(l:List ST)(ok:∀s∈l,s.OK)(hn:l.length≤1048576):Fn prog 58 [ql l.length 41 (l.flatMap ST.pv)] (.row 0) [(0,.row 66 41 l.length (l.flatMap ST.pv))]:=by
 refine fnI fun w0 A=>?_
 refine G [8] ?_;refine zab (zdD 11 U26 eo66 qp qp qy) rfl rfl ⟨rfl,trivial⟩ ?_;refine G [10] ?_;refine zag (fun m st=>∃i:Nat,m+i=l.length∧st=St.of [(3,.row 100),(12,ql l.length 41 (l.flatMap ST.pv)),(13,qd l.length),(14,qd i)] [(100,.row 66 41 i ((l.take i).flatMap ST.pv))]) l.length ?_ ?_
 ·refine⟨_,zai (fun _=>11) _ _ ?_ ?_ rfl,0,qp,rfl⟩
  ·exact jap
  ·exact jbn
 rintro m st ⟨i,hi,rfl⟩;refine G [5] ?_;refine cX ?_ ?_<;>intro h
 ·have hlt:i<l.length:=qw;clear h;obtain⟨s,hs⟩:=qo hlt;have hch:=zav (f:=ST.pv) (k:=41) (fun _=>rfl) hs;have hle:=zaw (f:=ST.pv) (k:=41) (fun _=>rfl) hlt;obtain⟨_,_,_,_,hq,hqx⟩:=ok s (qbo hs);have hpush:=zjo l i s hs;have hil:((l.take i).flatMap ST.pv).length=i*41:=qac;generalize hL:l.flatMap ST.pv=L at*;generalize (l.take i).flatMap ST.pv=T at*;obtain⟨key,ep,a,b,c,hh,q⟩:=s;dsimp only at hq hqx;refine G [8] ?_
  refine jdv ?_;refine G [6] ?_;refine jew ?_;refine G [11] ?_;refine zag (fun m' st=>∃j:Nat,m'+j=q.length∧st=St.of [(3,.row 100),(5,.ref 5 0),(6,.row 101),(12,ql l.length 41 L),(13,qd l.length),(14,qd i),(23,ql q.length 3 (q.flatMap PQ.pv)),(24,qd q.length),(25,qd j)] [(5,.box 66 (stC key ep a b c hh q.length (q.flatMap PQ.pv))),(100,.row 66 41 i T),(101,.row 36 3 j ((q.take j).flatMap PQ.pv))]) q.length ?_ ?_
  ·exact jaX
  rintro m' st ⟨j,hj,rfl⟩;refine G [5] ?_;refine cX ?_ ?_<;>intro h
  ·have hlj:j<q.length:=qw;clear h;obtain⟨p,hp⟩:=qo hlj;have hch2:=zav (f:=PQ.pv) (k:=3) (fun _=>rfl) hp;have hle2:=zaw (f:=PQ.pv) (k:=3) (fun _=>rfl) hlj;have hC:=zgu p.xs.length p.xs rfl qaA;have hpp:=zeQ q j p hp;have hjl:((q.take j).flatMap PQ.pv).length=j*3:=qR;generalize hQ:q.flatMap PQ.pv=Q at*;generalize (q.take j).flatMap PQ.pv=V at*;obtain⟨pa,pb,xs⟩:=p;dsimp only at hC hpp;refine G [8] ?_
   exact jau
  have hge:j=q.length:=qw;clear h;subst hge;rw[qbL];refine G [7] ?_;refine zcH (zbY (cs:=q.flatMap PQ.pv) 101 rfl) ?_
  skip
  refine jfq ?_;refine⟨m-1,qp,_,zai (fun o=>43) _ _ ?_ ?_ rfl,i+1,qp,rfl⟩
  ·exact jap
  ·exact⟨⟨by rw[←hpush];rfl,rfl⟩,trivial⟩
 exact jbd
end Go.Proofs.YtdiljgkijgiboaaGreatDoor
namespace Go.Proofs.YtdiljgkijgiboaaGreatDoor
open Go.RowKit Go.Sort
theorem zjt{α:Type}{l:List α}{i:Nat}{x:α}(h:l[i]?=some x):l.set i x=l:=by
 exact jct
theorem zgJ{st:St}(q:Nat){ty:TypeId}{cs:List AV}(k o e size:Nat)(hq:st.heap q=qj ty cs)(hk:cs[k]?=some (qm))(ho:st.heap o=.un):
 Re st (st.upd [(q,qj ty (cs.set k (.row o))),(o,qk e size 0 [])]):=by
 rintro w0 A nt a w ⟨⟨S,m,hm,hj,hr⟩,hsz,hd⟩;have hmo:=hm.un o ho;have hqo:q≠o:=fun e=>by rw[e,ho]at hq;cases hq
 have g:Grow S m w S (fun x=>if x=o then some (.slice none 0 0)else m x) w:=⟨fun _ h=>h,fun _ _=>rfl,fun x v h=>by
  by_cases hx:x=o
  ·subst hx;rw[hmo]at h;cases h
  ·simp only[if_neg hx];exact h⟩
 refine⟨⟨S,fun x=>if x=o then some (.slice none 0 0)else m x,?_,hj,fun t'=>?_⟩,hsz,hd⟩
 ·have key:∀x ob,(st.upd [(q,qj ty (cs.set k (.row o))),(o,qk e size 0 [])]).heap x=.live ob→x≠o→∃ob',st.heap x=.live ob':=fun x ob hx e1=>by
   by_cases e2:x=q
   ·subst e2;exact⟨_,hq⟩
   ·exact⟨ob,by simpa[St.upd,updL,nbeq e1,nbeq e2]using hx⟩
  refine⟨hm.bel,hm.sA,hm.sW,fun x hx=>?_,fun x ob hx=>?_,fun x x' ob ob' v v' b hx hx' hv hv' hb hb'=>?_,hm.gl⟩
  ·by_cases e2:x=q
   ·subst e2;simp[St.upd,updL]at hx
   by_cases e1:x=o
   ·subst e1;simp[St.upd,updL,nbeq e2]at hx
   ·simp only[if_neg e1];refine hm.un x ?_;simpa[St.upd,updL,nbeq e1,nbeq e2]using hx
  ·by_cases e2:x=q
   ·subst e2
    have hob:ob=.box ty (cs.set k (.row o)):=by
     simp[St.upd,updL]at hx;exact hx.symm
    subst hob;obtain⟨v,h1,⟨b,us,q1,q2,q3,q4,q5⟩,h3⟩:=hm.live x _ hq;refine⟨v,by simp only[if_neg hqo];exact h1,⟨b,us,q1,q2,?_,q4,q5⟩,h3⟩;obtain⟨u,hu1,hu2⟩:=q3.at_ hk;simp only[Rep,PRep]at hu2
    have:=(RepL.mono g _ _ q3).set k (c:=.row o) (u:=u) (by
     simp only[Rep];rw[hu2.1]
     exact⟨qG,_,_,_,rfl⟩)
    rwa [zjt hu1]at this
   by_cases e1:x=o
   ·subst e1;simp[St.upd,updL,nbeq e2]at hx;subst hx;refine⟨.slice none 0 0,qG,⟨[],by simp[PRepL],qG,.inl ⟨rfl,rfl⟩⟩,fun b hb=>by simp[blk]at hb⟩
   ·have hx':st.heap x=.live ob:=by simpa[St.upd,updL,nbeq e1,nbeq e2]using hx
    obtain⟨v,h1,h2,h3⟩:=hm.live x ob hx';exact⟨v,by simp only[if_neg e1];exact h1,h2.mono g fun _ _=>rfl,h3⟩
  ·by_cases e1:x=o
   ·subst e1;simp at hv;subst hv;simp[blk]at hb
   ·by_cases e2:x'=o
    ·subst e2;simp at hv';subst hv';simp[blk]at hb'
    ·simp only[if_neg e1]at hv;simp only[if_neg e2]at hv';obtain⟨o1,k1⟩:=key x ob hx e1;obtain⟨o2,k2⟩:=key x' ob' hx' e2;exact hm.inj x x' o1 o2 v v' b k1 k2 hv hv' hb hb'
 ·exact Rep.mono g _ _ (hr t')
def stA(key ep:ByteArray)(a b c:KY)(h:HS)(Q:AV):List AV:=[qc key,qc ep]++zd3 a b c++h.cells++[Q]
theorem rcopy_s(l:List ST)(ok:∀s∈l,s.OK)(hn:l.length≤1048576):Fn Tryz.prog 75 [ql l.length 41 (l.flatMap ST.pv)] (.row 0) [(0,.row 66 41 l.length (l.flatMap ST.pv))]:=by
 refine fnI fun w0 A=>?_
 refine G [16] ?_;refine za3 (zca 3 100 66 41 rfl rfl) ?_;refine zag (fun m st=>∃i:Nat,m+i=l.length∧st=St.of [(3,.row 100),(9,ql l.length 41 (l.flatMap ST.pv)),(10,qd l.length),(11,qd i)] [(100,.row 66 41 i ((l.take i).flatMap ST.pv))]) l.length ?_ ?_
 ·refine jdL ?_ ?_
  ·exact jap
  ·exact jbn
 rintro m st ⟨i,hi,rfl⟩;refine G [5] ?_;refine cX ?_ ?_<;>intro h
 ·have hlt:i<l.length:=qw;clear h;obtain⟨s,hs⟩:=qo hlt;have hch:=zav (f:=ST.pv) (k:=41) (fun _=>rfl) hs;have hle:=zaw (f:=ST.pv) (k:=41) (fun _=>rfl) hlt;obtain⟨_,_,_,_,hq,hqx⟩:=ok s (qbo hs);have hpush:=zjo l i s hs;have hil:((l.take i).flatMap ST.pv).length=i*41:=qac;generalize hL:l.flatMap ST.pv=L at*;generalize (l.take i).flatMap ST.pv=T at*;obtain⟨key,ep,a,b,c,hh,q⟩:=s;dsimp only at hq hqx;refine G [8] ?_
  refine jfi ?_;refine zag (fun m' st=>∃j:Nat,m'+j=q.length∧st=St.of [(3,.row 100),(6,.ref 6 0),(9,ql l.length 41 L),(10,qd l.length),(11,qd i),(18,ql q.length 3 (q.flatMap PQ.pv)),(19,qd q.length),(20,qd j)] [(6,.box 66 (stA key ep a b c hh (.row 101))),(100,.row 66 41 i T),(101,.row 36 3 j ((q.take j).flatMap PQ.pv))]) q.length ?_ ?_
  ·exact jaO
  rintro m' st ⟨j,hj,rfl⟩;refine G [5] ?_;refine cX ?_ ?_<;>intro h
  ·have hlj:j<q.length:=qw;clear h;obtain⟨p,hp⟩:=qo hlj;have hch2:=zav (f:=PQ.pv) (k:=3) (fun _=>rfl) hp;have hle2:=zaw (f:=PQ.pv) (k:=3) (fun _=>rfl) hlj;have hxl:=hqx p (qbo hp);have hpp:=zeQ q j p hp;have hjl:((q.take j).flatMap PQ.pv).length=j*3:=qR;generalize hQ:q.flatMap PQ.pv=Q at*;generalize (q.take j).flatMap PQ.pv=V at*;obtain⟨pa,pb,xs⟩:=p;dsimp only at hpp hxl;refine G [8] ?_;exact jas
  have hge:j=q.length:=qw;clear h;subst hge;rw[qbL];refine zar (za8 (za8 (zbi (zat (za1 (zbY (cs:=q.flatMap PQ.pv) 101 rfl) ?_)))))
  skip
  refine G [2] ?_;refine jdu ?_;refine jdS ?_;refine zab (zam 41 U26 eo66 (zas) qy qp (show _=i+1 by omega) hpush) rfl rfl ⟨rfl,rfl,rfl,trivial⟩ ?_;refine jdw ?_;refine⟨m-1,qp,_,zai (fun o=>41) _ _ ?_ ?_ rfl,i+1,qp,rfl⟩
  ·exact jap
  ·exact jbn
 exact jbd
structure CF where
 key:ByteArray
 port:Int
 ps:List PE
def cfC(key:ByteArray)(port:Int)(n:Nat)(L:List PV):List AV:=[qc key,qd port,ql n 5 L]
def CF.cells(c:CF):List AV:=cfC c.key c.port c.ps.length (c.ps.flatMap PE.pv)
def CF.pv(c:CF):List PV:=[qg c.key,qh c.port,.sl c.ps.length 5 (c.ps.flatMap PE.pv)]
structure CF.OK(c:CF):Prop where
 len:c.ps.length≤1048576
 ps:∀p∈c.ps,p.OK∧p.nets.length≤1048576
theorem PE.list_ty{n:Nat}{ps:List PV}(h:Ty Tryz.prog (n+6) 22 ps)(hb:PV.bdL 1048576 ps):∃l:List PE,(∀p∈l,p.OK∧p.nets.length≤1048576)∧l.length≤1048576∧ps=[.sl l.length 5 (l.flatMap PE.pv)]:=by
 obtain⟨L,rfl,h2,h3⟩:=zf2 (sz:=5) U22 qq h;simp only[PV.bdL,PV.bd,and_true]at hb
 obtain⟨l,k1,k2,k3⟩:=zgI (f:=PE.pv) (Q:=fun p:PE=>p.OK∧p.nets.length≤1048576) (L:=L) fun x hx=>by
  have hbx:=zbK hb.2 x hx;obtain⟨s,h4,h5⟩:=PE.of_ty (n:=n) (h3 x hx).1 hbx;rw[h5]at hbx;simp only[PE.pv,PV.bdL,PV.bd]at hbx;exact⟨s,⟨h4,hbx.2.2.2.2.1.1⟩,h5⟩
 exact jdg
theorem CF.of_ty{n:Nat}{ps:List PV}(h:Ty Tryz.prog (n+7) 24 ps)(hb:PV.bdL 1048576 ps):∃c:CF,c.OK∧ps=c.pv:=by
 obtain⟨_,rfl,x0,_,rfl,t0,x1,_,rfl,t1,x2,_,rfl,t2,rfl⟩:=zbu (ts:=[9,3,22]) qq h;obtain⟨a0,rfl,_⟩:=zb2 U9 t0;obtain⟨a1,rfl,_⟩:=zbz U3 t1;obtain⟨l,ok,hl,rfl⟩:=PE.list_ty t2 (zbK hb x2 qG);exact⟨⟨a0,a1,l⟩,⟨hl,ok⟩,rfl⟩
def dupN:List NtP→List NtP→Bool
 |_,[]=>false
 |acc,n::r=>decide (n∈acc)||dupN (acc++[n]) r
def peG(l:List PE)(i:Nat):PE:=l.getD i ⟨⟨#[]⟩,⟨#[]⟩,⟨#[]⟩,0,[]⟩
def zcE(l:List PE)(i:Nat):List NtP:=(l.take i).flatMap PE.nets
def ze1(k:ByteArray)(l:List PE)(i:Nat):Int:=
 if peE (peG l i)≠0 then peE (peG l i)else if(0<i∧leK (peG l i).key (peG l (i-1)).key=true)∨(peG l i).key=k then 6
 else if dupN (zcE l i) (peG l i).nets=true then 6 else 0
def cfE(c:CF):Int:=
 if c.key≠⟨#[]⟩∧keyE c.key≠0 then keyE c.key else if c.port<0∨65535<c.port then 4 else if 6<c.ps.length then 1 else fnz (ze1 c.key c.ps) c.ps.length
theorem zhY{l:List PE}{i:Nat}{p:PE}(h:l[i]?=some p):peG l i=p:=by unfold peG;rw[List.getD_eq_getElem?_getD,h];rfl
theorem zgM{l:List PE}{i:Nat}{p:PE}(h:l[i]?=some p):zcE l (i+1)=zcE l i++p.nets:=by
 obtain⟨h1,h2⟩:=qbl.1 h;unfold zcE;exact jb8
theorem netsB_len{l:List PE}{i:Nat}(h:∀j,j<i→(peG l j).nets.length≤8)(hi:i≤l.length):(zcE l i).length≤8*i:=by
 induction i with
 |zero=>simp[zcE]
 |succ i ih=>
  have hi':l[i]?=some l[i]:=List.getElem?_eq_getElem qp;rw[zgM hi',qbm];have h1:=ih (fun j hj=>h j qp) qp;have h2:=h i qp;rw[zhY hi']at h2;omega
theorem zdK{p:PE}(h:peE p=0):p.nets.length≤8∧keyE p.key=0:=by
 unfold peE at h
 split at h
 ·exact jdd
 rename_i h1
 split at h
 ·rename_i h2;exact absurd h h2.2
 split at h
 ·cases h
 split at h
 ·rename_i h2;exact absurd h h2.2
 split at h
 ·cases h
 split at h
 ·cases h
 exact⟨qp,qbq.1 h1⟩
end Go.Proofs.YtdiljgkijgiboaaGreatDoor
namespace Go.Proofs.YtdiljgkijgiboaaGreatDoor
open Tryz
open Go.RowKit Go.Sort
theorem nclone_s(l:List NtP)(hn:l.length≤1048576):Fn prog 102 [ql l.length 2 (l.flatMap ntC)] (.row 0) [(0,.row 101 2 l.length (l.flatMap ntC))]:=by
 have hL:(l.flatMap ntC).length=l.length*2:=zaO (f:=ntC) (k:=2) (fun _=>rfl) l
 by_cases h0:l.length=0
 ·obtain rfl:l=[]:=qbz h0;show Fn prog _ [ql 0 2 []] (.row 0) [(0,.row 101 2 0 [])];refine fnI fun w0 A=>?_
  refine G [8] ?_;refine jfZ (a_seqX U96) ?_;refine jfg ?_;refine ze5 rfl ?_ ?_
  ·refine jdY ?_;refine za3 (zca 2 100 101 2 rfl rfl) ?_;refine zaq (zaZ ?_);exact jbu
  ·refine G [3] ?_;refine jf0 (zbe 5 U96 zbw) ?_;refine jdn ?_;refine zab (zam 7 U96 eo101 (zbc) qy qp rfl rfl) rfl rfl ⟨rfl,rfl,trivial⟩ ?_;exact jbw
 ·generalize l.flatMap ntC=L at*;generalize l.length=n at*;refine fnI fun w0 A=>?_
  refine G [8] ?_;refine zaa (a_seqS U96 qp) rfl rfl ?_;refine jfg ?_;refine cX ?_ ?_<;>intro h
  ·cases h
  ·refine G [3] ?_;refine jf0 (zbe 5 U96 zbw) ?_;refine jdn ?_;refine zab (zam 7 U96 eo101 (zbc) qy qp (show _=n by omega) rfl) rfl rfl ⟨rfl,rfl,trivial⟩ ?_;refine jd4 ?_;refine yT (fun _=>7) ?_ ?_
   ·exact rfl
   ·exact jbn
theorem pe_push(l:List PE)(i:Nat)(p:PE)(h:l[i]?=some p):(l.take i).flatMap PE.pv++p.pv=(l.take (i+1)).flatMap PE.pv:=by
 obtain⟨h1,h2⟩:=qbl.1 h;exact jb8
theorem zj6(c:CF)(ok:c.OK):Fn prog 56 [.agg c.cells] (.agg [qc c.key,qd c.port,.row 0]) [(0,.row 98 5 c.ps.length (c.ps.flatMap PE.pv))]:=by
 obtain⟨key,port,l⟩:=c;obtain⟨hn,ok⟩:=ok;dsimp only at hn ok;show Fn prog _ [.agg (cfC key port l.length (l.flatMap PE.pv))] (.agg [qc key,qd port,.row 0]) [(0,.row 98 5 l.length (l.flatMap PE.pv))];refine fnI fun w0 A=>?_
 refine G [10] ?_;refine zab (zdD 9 U22 eo98 qp qp qy) rfl rfl ⟨rfl,trivial⟩ ?_;refine G [11] ?_;refine zag (fun m st=>∃i:Nat,m+i=l.length∧st=St.of [(1,.ref 1 0),(2,.ref 2 0),(3,.row 100),(11,ql l.length 5 (l.flatMap PE.pv)),(12,qd l.length),(13,qd i)] [(1,.box 24 (cfC key port l.length (l.flatMap PE.pv))),(2,.box 24 [qc ⟨#[]⟩,qd 0,qm]),(100,.row 98 5 i ((l.take i).flatMap PE.pv))]) l.length ?_ ?_
 ·refine⟨_,zai (fun o=>bif Nat.beq o 100 then 9 else o) _ _ ?_ ?_ rfl,0,qp,rfl⟩
  ·exact jap
  ·exact jbr
 rintro m st ⟨i,hi,rfl⟩;refine G [5] ?_;refine cX ?_ ?_<;>intro h
 ·have hlt:i<l.length:=qw;clear h;obtain⟨p,hp⟩:=qo hlt;have hch:=zav (f:=PE.pv) (k:=5) (fun _=>rfl) hp;have hle:=zaw (f:=PE.pv) (k:=5) (fun _=>rfl) hlt;have hpl:=(ok p (qbo hp)).2;have hC:=nclone_s p.nets hpl;have hpush:=pe_push l i p hp;have hil:((l.take i).flatMap PE.pv).length=i*5:=qas;generalize hL:l.flatMap PE.pv=L at*;generalize (l.take i).flatMap PE.pv=T at*;obtain⟨pk,sh,ep,al,nn⟩:=p;dsimp only at hC hpl
  refine G [8] ?_;refine jf0 (zaf (Y:=.agg [qc pk,qc sh,qc ep,qd al,ql nn.length 2 (nn.flatMap ntC)]) sz98 rfl rfl (qbn rfl)) ?_;refine G [5] ?_;refine zbN (fun _=>19) (hC) rfl rfl func102 rfl rfl qD rfl rfl rfl qr rfl rfl rfl ?_;refine G [3] ?_;refine zcH (zbY (cs:=nn.flatMap ntC) 19 rfl) ?_
  skip
  refine G [3] ?_;refine jf0 (zae 23 U22 sz98 zc98 (qbk rfl) (qbk rfl) rfl rfl rfl rfl (qbk rfl)) ?_;refine zab (zam 24 U22 eo98 (zas) qy qp rfl rfl) rfl rfl ⟨rfl,rfl,rfl,trivial⟩ ?_;refine jdw ?_;refine⟨m-1,qp,_,zai (fun o=>bif Nat.beq o 100 then 24 else o) _ _ ?_ ?_ rfl,i+1,qp,rfl⟩
  ·exact jap
  ·exact⟨⟨rfl,rfl⟩,⟨rfl,rfl⟩,⟨by rw[←hpush];rfl,rfl⟩,trivial⟩
 have hge:i=l.length:=qw;clear h;subst hge;rw[qbL];refine G [13,9,0] ?_;exact jbu
def peN(k:ByteArray):List PE→Nat
 | []=>0
 |p::l=>if p.key=k then 0 else peN k l+1
theorem peN_at{k:ByteArray}:∀{l:List PE} {i:Nat},(hi:i<l.length)→l[i].key=k→(∀j,(hj:j<i)→l[j].key≠k)→peN k l=i
 |p::l,0,_,h,_=>by
  have:p.key=k:=qB;simp[peN,this]
 |p::l,i+1,hi,h,hb=>by
  have h0:p.key≠k:=by simpa using hb 0 qp
  have ih:=peN_at (l:=l) (i:=i) qai qB (fun j hj=>by simpa using hb (j+1) qp);simp[peN,h0,ih]
theorem zjD{k:ByteArray}:∀{l:List PE},(∀j,(hj:j<l.length)→l[j].key≠k)→peN k l=l.length
 | [],_=>rfl
 |p::l,hb=>by
  have h0:p.key≠k:=hb 0 qG;have ih:=zjD (k:=k) (l:=l) (fun j hj=>hb (j+1) (by simpa using hj));simp[peN,h0,ih]
theorem find1_s(p:PE)(k:ByteArray):Fn prog 55 [.agg p.cells,.ptr [qg k]] (qf (decide (p.key=k))) []:=by
 obtain⟨pk,sh,ep,al,nn⟩:=p;show Fn prog _ [.agg [qc pk,qc sh,qc ep,qd al,ql nn.length 2 (nn.flatMap ntC)],.ptr [qg k]] (qf (decide (pk=k))) _;refine fnI fun w0 A=>?_
 refine G [9] ?_;refine jd3 ?_;refine jdY ?_;exact yE
def peI(k:ByteArray)(l:List PE):Int:=if peN k l<l.length then peN k l else -1
theorem indexF_s(l:List PE)(k:ByteArray)(hn:l.length≤1048576):Fn prog 54 [ql l.length 5 (l.flatMap PE.pv),.fn 55 [.ptr [qg k]]] (qd (peI k l)) []:=by
 refine fnI fun w0 A=>?_
 refine G [12] ?_;refine zag (fun m st=>∃i:Nat,m+i=l.length∧(∀j,(hj:j<i)→(hj2:j<l.length)→l[j].key≠k)∧st=St.of [(0,ql l.length 5 (l.flatMap PE.pv)),(1,.fn 55 [.ptr [qg k]]),(7,qd l.length),(8,qd i)] []) l.length ?_ ?_
 ·refine⟨_,zai id _ _ ?_ ?_ rfl,0,qp,fun j hj=>by omega,rfl⟩
  ·exact jap
  ·exact trivial
 rintro m st ⟨i,hi,hb,rfl⟩;refine G [5] ?_;refine cX ?_ ?_<;>intro h
 ·have hlt:i<l.length:=qw;clear h;have hq:l[i]?=some (l[i]'qp):=List.getElem?_eq_getElem qp;have hch:=zav (f:=PE.pv) (k:=5) (fun _=>rfl) hq;have hle:=zaw (f:=PE.pv) (k:=5) (fun _=>rfl) hlt;have hat:=@peN_at k l i hlt
  have hstep:(l[i]'qp).key≠k→∀j,(hj:j<i+1)→(hj2:j<l.length)→l[j].key≠k:=fun hne j hj hj2=>by
   by_cases e:j=i
   ·subst e;exact hne
   ·exact hb j qp hj2
  have hb':∀j,(hj:j<i)→(l[j]'qp).key≠k:=fun j hj=>hb j hj qp
  have hC:=find1_s (l[i]'qp) k;generalize hx:(l[i]'qp)=p at*;generalize l.flatMap PE.pv=L at*;refine G [8] ?_
  by_cases hc:p.key=k
  ·have hI:peI k l=i:=by unfold peI;rw[hat hc hb',if_pos hlt]
   rw[hI];rw[decide_eq_true hc]at hC;refine G [7] ?_;refine cK hC ?_;exact jbs
  ·rw[decide_eq_false hc]at hC;refine G [7] ?_;refine cK hC ?_;refine jds ?_;refine⟨m-1,qp,_,zai id _ _ ?_ ?_ rfl,i+1,qp,hstep hc,rfl⟩
   ·exact jap
   ·exact trivial
 have hge:i=l.length:=qw;clear h;have hI:peI k l= -1:=by unfold peI;rw[zjD fun j hj=>hb j (by omega) hj,if_neg (by omega)]
 rw[hI];exact jaB
theorem find_s(c:CF)(ok:c.OK)(k:ByteArray):Fn prog 11 [.agg c.cells,qc k] (if peN k c.ps<c.ps.length then .tup [qd (peN k c.ps:Nat),qd 0]else .tup [qd 0,qd 5]) []:=by
 obtain⟨key,port,l⟩:=c;have hI:=indexF_s l k ok.len;show Fn prog _ [.agg (cfC key port l.length (l.flatMap PE.pv)),_] (if peN k l<l.length then .tup [qd (peN k l:Nat),qd 0]else .tup [qd 0,qd 5]) _;obtain⟨R,hR⟩:∃R,(if peN k l<l.length then AV.tup [qd (peN k l:Nat),qd 0]else .tup [qd 0,qd 5])=R:=⟨_,rfl⟩;rw[hR];unfold peI at hI;generalize l.flatMap PE.pv=L at*;refine fnI fun w0 A=>?_
 refine G [7] ?_;refine zcH (reo_fzV (cs:=[qg k]) 3 rfl rfl) ?_
 by_cases hc:peN k l<l.length
 ·rw[if_pos hc]at hI hR;subst hR;generalize peN k l=n at*;refine G [4] ?_;refine jfZ zjk ?_;refine cK hI ?_;refine jdV ?_;refine cX ?_ ?_<;>intro h
  ·simp at h;omega
  exact jbs
 ·rw[if_neg hc]at hI hR;subst hR;refine G [4] ?_;refine jfZ zjk ?_;refine cK hI ?_;refine jdV ?_;exact jbi
theorem peerAt_s(c:CF)(ok:c.OK)(k:ByteArray):Fn prog 23 [.agg c.cells,qc k] (qd (peN k c.ps:Nat)) []:=by
 obtain⟨key,port,l⟩:=c;have hn:=ok.len;dsimp only at hn;show Fn prog _ [.agg (cfC key port l.length (l.flatMap PE.pv)),_] (qd (peN k l:Nat)) _;refine fnI fun w0 A=>?_
 refine G [11] ?_;refine zag (fun m st=>∃i:Nat,m+i=l.length∧(∀j,(hj:j<i)→(hj2:j<l.length)→l[j].key≠k)∧st=St.of [(1,qc k),(2,.ref 2 0),(5,qd i)] [(2,.box 24 (cfC key port l.length (l.flatMap PE.pv)))]) l.length ?_ ?_
 ·exact jdk
 rintro m st ⟨i,hi,hb,rfl⟩
 by_cases hlt:i<l.length
 ·have hq:l[i]?=some (l[i]'qp):=List.getElem?_eq_getElem qp;have hch:=zav (f:=PE.pv) (k:=5) (fun _=>rfl) hq;have hle:=zaw (f:=PE.pv) (k:=5) (fun _=>rfl) hlt;have hat:=@peN_at k l i hlt
  have hstep:(l[i]'qp).key≠k→∀j,(hj:j<i+1)→(hj2:j<l.length)→l[j].key≠k:=fun hne j hj hj2=>by
   by_cases e:j=i
   ·subst e;exact hne
   ·exact hb j qp hj2
  have hb':∀j,(hj:j<i)→(l[j]'qp).key≠k:=fun j hj=>hb j hj qp
  generalize hx:(l[i]'qp)=p at*
  have hpk:((l.flatMap PE.pv).drop (i*5))[0]?=some (qg p.key):=by
   have:=congrArg (fun x=>x[0]?) hch;exact jcG
  generalize l.flatMap PE.pv=L at*;generalize p.key=pk at*
  by_cases hc:pk=k
  ·rw[hat hc hb'];refine G [7,4,5] ?_;refine jfw ?_;refine G [1,3,10,9,0] ?_;exact yE
  ·refine G [7,4,5] ?_;refine jfw ?_;refine G [1,4,10,9,0] ?_;refine⟨m-1,qp,_,zai id _ _ ?_ ?_ rfl,i+1,qp,hstep hc,rfl⟩
   ·exact jap
   ·exact jbn
 ·have hge:i=l.length:=qp;rw[zjD fun j hj=>hb j (by omega) hj];subst hge;refine G [7,3,19,9,0] ?_;exact yE
end Go.Proofs.YtdiljgkijgiboaaGreatDoor
namespace Go.Proofs.YtdiljgkijgiboaaGreatDoor
open Go.RowKit Go.Sort
theorem zgH(c:CF)(ok:c.OK):Fn Tryz.prog 74 [.agg c.cells] (.agg [qc c.key,qd c.port,.row 0]) [(0,.row 98 5 c.ps.length (c.ps.flatMap PE.pv))]:=by
 obtain⟨key,port,l⟩:=c;obtain⟨hn,ok⟩:=ok;dsimp only at hn ok;show Fn Tryz.prog _ [.agg (cfC key port l.length (l.flatMap PE.pv))] (.agg [qc key,qd port,.row 0]) [(0,.row 98 5 l.length (l.flatMap PE.pv))];refine fnI fun w0 A=>?_
 refine G [13] ?_;refine jf0 (zaf (Y:=.agg [qc key,qd port,qm]) sz24 rfl rfl (qbn rfl)) ?_;refine jfg ?_;refine za3 (zgJ 3 (cs:=[qc key,qd port,qm]) 2 100 98 5 rfl rfl rfl) ?_;refine G [9] ?_;refine zag (fun m st=>∃i:Nat,m+i=l.length∧st=St.of [(2,.ref 2 0),(3,.ref 3 0),(12,ql l.length 5 (l.flatMap PE.pv)),(13,qd l.length),(14,qd i)] [(2,.box 24 [qc ⟨#[]⟩,qd 0,qm]),(3,.box 24 [qc key,qd port,.row 100]),(100,.row 98 5 i ((l.take i).flatMap PE.pv))]) l.length ?_ ?_
 ·exact jaO
 rintro m st ⟨i,hi,rfl⟩;refine G [5] ?_;refine cX ?_ ?_<;>intro h
 ·have hlt:i<l.length:=qw;clear h;obtain⟨p,hp⟩:=qo hlt;have hch:=zav (f:=PE.pv) (k:=5) (fun _=>rfl) hp;have hle:=zaw (f:=PE.pv) (k:=5) (fun _=>rfl) hlt;have hpl:=(ok p (qbo hp)).2;have hpush:=pe_push l i p hp;have hil:((l.take i).flatMap PE.pv).length=i*5:=qas;generalize hL:l.flatMap PE.pv=L at*;generalize (l.take i).flatMap PE.pv=T at*;obtain⟨pk,sh,ep,al,nn⟩:=p;dsimp only at hpl;have hnl:(nn.flatMap ntC).length=nn.length*2:=zaO (f:=ntC) (k:=2) (fun _=>rfl) nn
  change T++[qg pk,qg sh,qg ep,qh al,.sl nn.length 2 (nn.flatMap ntC)]=_ at hpush;change _=([qg pk,qg sh,qg ep,qh al,.sl nn.length 2 (nn.flatMap ntC)]:List PV)at hch;generalize nn.flatMap ntC=NL at*;generalize nn.length=nl at*;refine G [8] ?_;refine jf0 (zaf (Y:=.agg [qc pk,qc sh,qc ep,qd al,ql nl 2 NL]) sz98 rfl rfl (qbn rfl)) ?_;refine G [5] ?_;refine zab (zaP 20 U96 eo101 (zbc) qy qp) rfl rfl ⟨rfl,trivial⟩ ?_
  refine G [3] ?_;refine zcH (zbY (cs:=NL) 20 rfl) ?_
  skip
  refine G [4] ?_;refine jf0 (zae 25 U22 sz98 zc98 (qbk rfl) (qbk rfl) rfl rfl rfl rfl (qbk rfl)) ?_;refine zab (zam 26 U22 eo98 (zas) qy qp rfl rfl) rfl rfl ⟨rfl,rfl,rfl,trivial⟩ ?_;refine jds ?_;refine⟨m-1,qp,_,zai (fun o=>bif Nat.beq o 100 then 26 else o) _ _ ?_ ?_ rfl,i+1,qp,rfl⟩
  ·exact jap
  ·exact⟨⟨rfl,rfl⟩,⟨rfl,rfl⟩,⟨by rw[←hpush];rfl,rfl⟩,trivial⟩
 exact jbd
end Go.Proofs.YtdiljgkijgiboaaGreatDoor
namespace Go.Proofs.YtdiljgkijgiboaaGreatDoor
open Tryz
open Go.RowKit Go.Sort
section
variable {P:Program}{d:Option Tmp}{ty:TypeId}{pos:String}{af:Array Edge}{g:Option (Nat×Bool)}
theorem zg1{xt yt:TypeId}{x y:Operand}{s t:ByteArray}{c:Bool}(h:leK s t=c):AOp P ⟨d,.binOp .leq xt x y yt,ty,pos,af,g⟩ [qc s,qc t] [] [] (qf c):=by
 subst h;exact a_sleq
end
theorem awp_joinS{P:Program}{w0:World}{A:Ctx1}{nt:Nat}{c c2 d:Code}{Q:Exit→St→Prop}{st:St}(st1:St)(h:awp ⟨P,w0,ctx0 A,nt⟩ c (Thn (awp ⟨P,w0,ctx0 A,nt⟩ c2 (Thn (fun st'=>Re st' st1) Q)) (Thn (fun st'=>Re st' st1) Q)) st)(k:awp ⟨P,w0,ctx0 A,nt⟩ d Q st1):
 awp ⟨P,w0,ctx0 A,nt⟩ c (Thn (awp ⟨P,w0,ctx0 A,nt⟩ c2 (Thn (awp ⟨P,w0,ctx0 A,nt⟩ d Q) Q)) (Thn (awp ⟨P,w0,ctx0 A,nt⟩ d Q) Q)) st:=
 zgw h fun e st' he=>by
  cases e with
  |normal=>exact zb3 st1 he k
  |_=>exact he
def idxN(n:NtP):List NtP→Int
 | []=> -1
 |x::xs=>if n=x then 0 else if idxN n xs<0 then -1 else idxN n xs+1
theorem idxN_at{n:NtP}:∀{xs:List NtP} {k:Nat},(hk:k<xs.length)→n=xs[k]→(∀j,(hj:j<k)→n≠xs[j])→idxN n xs=k
 |x::xs,0,_,h,_=>by
  have:n=x:=qB;simp[idxN,this]
 |x::xs,k+1,hk,h,hb=>by
  have h0:n≠x:=by simpa using hb 0 qp
  have ih:=idxN_at (xs:=xs) (k:=k) (by simpa using hk) qB (fun j hj=>by simpa using hb (j+1) qp);simp only[idxN,if_neg h0,ih];rw[if_neg (by omega)];omega
theorem idxN_none{n:NtP}:∀{xs:List NtP},(∀j,(hj:j<xs.length)→n≠xs[j])→idxN n xs= -1
 | [],_=>rfl
 |x::xs,hb=>by
  have h0:n≠x:=hb 0 qG;have ih:=idxN_none (n:=n) (xs:=xs) (fun j hj=>hb (j+1) (by simpa using hj));simp[idxN,h0,ih]
theorem idxN_ge(n:NtP):∀xs:List NtP,(0≤idxN n xs↔n∈xs)
 | []=>by simp[idxN]
 |x::xs=>by
  have ih:=idxN_ge n xs;unfold idxN
  by_cases h:n=x
  ·rw[if_pos h];simp[h]
  ·rw[if_neg h]
   by_cases h2:idxN n xs<0
   ·rw[if_pos h2];simp only[qbA,h,false_or];rw[←ih];omega
   ·rw[if_neg h2];simp only[qbA,h,false_or];rw[←ih];omega
theorem eqNets(a b c d:Int):eqL [.int .u32 a,.int .i64 b] [.int .u32 c,.int .i64 d]=decide ((a,b)=(c,d)):=by
 rw[qb1,zaY,decide_eq_true_eq];simp
theorem indexN_s(xs:List NtP)(a b:Int)(N:Nat)(hN:xs.length=N)(hm:N≤100000):Fn prog 132 [ql N 2 (xs.flatMap ntC),.agg [qe a,qd b]] (qd (idxN (a,b) xs)) []:=by
 refine fnI fun w0 A=>?_
 refine G [13] ?_;refine zag (fun m st=>∃k:Nat,m+k=N∧(∀j,(hj:j<k)→(hj2:j<xs.length)→(a,b)≠xs[j])∧st=St.of [(0,ql N 2 (xs.flatMap ntC)),(3,.ref 3 0),(7,qd N),(8,qd k)] [(3,.box 101 [qe a,qd b])]) N ?_ ?_
 ·exact jdk
 rintro m st ⟨k,hk,hb,rfl⟩;refine G [5] ?_;refine cX ?_ ?_<;>intro h
 ·have hlt:k<N:=qw;clear h;have hq:xs[k]?=some (xs[k]'qp):=List.getElem?_eq_getElem qp;have hch:=zav (f:=ntC) (k:=2) (fun _=>rfl) hq;have hle:=zaw (f:=ntC) (k:=2) (fun _=>rfl) (show k<xs.length by omega);have hat:=@idxN_at (a,b) xs k qp
  have hstep:(a,b)≠(xs[k]'qp)→∀j,(hj:j<k+1)→(hj2:j<xs.length)→(a,b)≠xs[j]:=fun hne j hj hj2=>by
   by_cases e:j=k
   ·subst e;exact hne
   ·exact hb j qp hj2
  have hb':∀j,(hj:j<k)→(a,b)≠(xs[j]'qp):=fun j hj=>hb j hj qp
  generalize hx:(xs[k]'qp)=x at*;obtain⟨c,e⟩:=x;generalize xs.flatMap ntC=L at*;refine G [8] ?_
  by_cases hc:(a,b)=(c,e)
  ·rw[hat hc hb'];refine G [7] ?_;refine zaa (zcL U101 rfl rfl qq qq qq (c:=true) (by rw[eqNets];exact decide_eq_true hc)) rfl rfl ?_;exact jbs
  ·refine G [7] ?_;refine zaa (zcL U101 rfl rfl qq qq qq (c:=false) (by rw[eqNets];exact decide_eq_false hc)) rfl rfl ?_;refine jds ?_;refine⟨m-1,qp,_,zai id _ _ ?_ ?_ rfl,k+1,qp,hstep hc,rfl⟩
   ·exact jap
   ·exact jbn
 have hge:k=N:=qw;clear h;rw[idxN_none fun j hj=>hb j (by omega) hj];exact jaB
theorem containsN_s(xs:List NtP)(a b:Int)(N:Nat)(hN:xs.length=N)(hm:N≤100000):Fn prog 93 [ql N 2 (xs.flatMap ntC),.agg [qe a,qd b]] (qf (decide ((a,b)∈xs))) []:=by
 have hI:=indexN_s xs a b N hN hm;have hge:=idxN_ge (a,b) xs;have hB:decide ((a,b)∈xs)=decide (0≤idxN (a,b) xs):=by simp only[hge]
 rw[hB];generalize idxN (a,b) xs=k at*;refine fnI fun w0 A=>?_
 refine G [9] ?_;refine cV hI ?_;refine jdY ?_;exact yE
theorem nt_push(X:List NtP)(a b:Int):X.flatMap ntC++[qi a,qh b]=(X++[(a,b)]).flatMap ntC:=by
 rw[qbV];simp[ntC]
theorem zim(c:CF)(ok:c.OK):Fn prog 38 [.agg c.cells] (.p (.v (.int .i64 (cfE c)))) []:=by
 obtain⟨key,port,l⟩:=c;obtain⟨hn,ok⟩:=ok;dsimp only at hn ok;obtain⟨E,hE⟩:∃E,cfE ⟨key,port,l⟩=E:=⟨_,rfl⟩;rw[hE];unfold cfE at hE;dsimp only at hE;have hK:=zbs key;show Fn prog _ [.agg (cfC key port l.length (l.flatMap PE.pv))] _ _;generalize keyE key=k1 at*;refine fnI fun w0 A=>?_
 refine G [5] ?_
 by_cases hk:key≠⟨#[]⟩∧k1≠0
 ·rw[if_pos hk]at hE;subst hE;refine jds ?_;refine cX ?_ ?_<;>intro h
  ·refine G [4] ?_;refine cV hK ?_;refine jds ?_;refine cX ?_ ?_<;>intro h
   ·exact jaB
   ·exact absurd qB hk.2
  ·exact absurd qB hk.1
 rw[if_neg hk]at hE;refine jds ?_;refine zb3 (St.of [(1,.ref 1 0)] [(1,.box 24 (cfC key port l.length (l.flatMap PE.pv)))]) ?_ ?_
 ·skip
  refine cX ?_ ?_<;>intro h
  ·refine G [4] ?_;refine cV hK ?_;refine jds ?_;refine cX ?_ ?_<;>intro h
   ·exact absurd ⟨by simp_all,by simpa using h⟩ hk
   ·exact jbW
  ·exact jbW
 clear hk hK;refine G [10,2,1,9,0] ?_;refine cX ?_ ?_<;>intro h
 ·have h5:port<0∨65535<port:=qB;exact jbf
 have h5:¬(port<0∨65535<port):=qw;clear h;rw[if_neg h5]at hE;refine G [9,9,0] ?_;refine cX ?_ ?_<;>intro h
 ·exact jcl
 have h6:¬6<l.length:=qw;clear h;rw[if_neg h6]at hE;refine jdC ?_;refine za3 (zca 4 100 101 2 rfl rfl) ?_;refine G [9] ?_;refine zag (fun m st=>∃i:Nat,m+i=l.length∧(∀j,j<i→ze1 key l j=0)∧st=St.of [(1,.ref 1 0),(4,.row 100),(32,.p (.sl l.length 5 (l.flatMap PE.pv))),(33,.p (.v (.int .i64 l.length))),(34,.p (.v (.int .i64 i)))] [(1,.box 24 (cfC key port l.length (l.flatMap PE.pv))),(100,.row 101 2 (zcE l i).length ((zcE l i).flatMap ntC))]) l.length ?_ ?_
 ·exact jaQ
 rintro m st ⟨i,hi,hf,rfl⟩;refine G [5] ?_;refine cX ?_ ?_<;>intro h
 ·have hlt:i<l.length:=qw;clear h;obtain⟨p,hp⟩:=qo hlt;have hch:=zav (f:=PE.pv) (k:=5) (fun _=>rfl) hp;have hle:=zaw (f:=PE.pv) (k:=5) (fun _=>rfl) hlt;obtain⟨hok,hpl⟩:=ok p (qbo hp);have hC:=right_s p hok;have hhit:=@zcx (ze1 key l) i l.length hf hlt;have hst:ze1 key l i=if peE p≠0 then peE p else if(0<i∧leK p.key (peG l (i-1)).key=true)∨p.key=key then 6 else if dupN (zcE l i) p.nets=true then 6 else 0:=by unfold ze1;rw[zhY hp]
  have hgood:=@zdK p;have hnx:=zgM hp
  have hbl:(zcE l i).length≤8*i:=netsB_len (fun j hj=>by
   have h0:=hf j hj;unfold ze1 at h0
   split at h0
   ·exact absurd h0 qah
   ·rename_i h1
    exact(zdK (qbq.1 h1)).1) qp
  have hprev:∀j,i=j+1→(((l.flatMap PE.pv).drop (j*5)).take 5=(peG l j).pv)∧j*5+5≤(l.flatMap PE.pv).length:=by
   intro j hj;obtain⟨r,hr⟩:∃r,l[j]?=some r:=⟨l[j],List.getElem?_eq_getElem qp⟩;rw[zhY hr];exact⟨zav (f:=PE.pv) (k:=5) (fun _=>rfl) hr,zaw (f:=PE.pv) (k:=5) (fun _=>rfl) qp⟩
  generalize hL:l.flatMap PE.pv=L at*;generalize peE p=e at*;refine G [10] ?_;refine jd9 ?_;refine G [4] ?_;refine jeN ?_;refine cK hC ?_;refine jds ?_;refine cX ?_ ?_<;>intro h
  ·exact jc3
  have h7:e=0:=qB;clear h;rw[if_neg (by simp[h7])]at hst;obtain⟨hn8,_⟩:=hgood h7
  --@rest
  have hcase:i=0∨∃j,i=j+1:=by
   exact jb4
  by_cases hd:(0<i∧leK p.key (peG l (i-1)).key=true)∨p.key=key
  ·rw[if_pos hd]at hst;rw[hhit (by rw[hst];decide),hst]at hE;subst hE;rcases hcase with hi0|⟨j0,hij⟩
   ·have hkk:p.key=key:=hd.resolve_left fun q=>by omega
    refine G [5,3,17] ?_;refine je9 ?_;exact jbs
   ·obtain⟨hpv,hple⟩:=hprev j0 hij
    have hpk:(L.drop (j0*5))[0]?=some (.v (.string (peG l j0).key)):=by
     have:=congrArg (fun x=>x[0]?) hpv;exact jcG
    rw[show i-1=j0 by omega]at hd
    by_cases hlk:leK p.key (peG l j0).key=true
    ·refine G [5,4,7] ?_;refine zaa (zaL U22 sz98 qp qp (show _=L.drop (j0*5)by congr 2;omega)) rfl rfl ?_;refine jfw ?_;refine jfZ (zg1 (c:=true) (hlk)) ?_;refine G [15,9,0] ?_;exact yE
    ·have hkk:p.key=key:=hd.resolve_left fun q=>hlk q.2
     refine G [5,4,7] ?_;refine zaa (zaL U22 sz98 qp qp (show _=L.drop (j0*5)by congr 2;omega)) rfl rfl ?_;refine jfw ?_;refine zaa (zg1 (c:=false) qbe) rfl rfl ?_;refine G [6] ?_;refine je9 ?_;refine jdV ?_;exact yE
  rw[if_neg hd]at hst;have hkk:¬p.key=key:=fun e=>hd (.inr e)
  refine G [3] ?_;refine awp_joinS (St.of [(1,.ref 1 0),(4,.row 100),(6,.ref 6 0),(32,.p (.sl l.length 5 L)),(33,.p (.v (.int .i64 l.length))),(34,.p (.v (.int .i64 i)))] [(1,.box 24 (cfC key port l.length L)),(6,.box 98 p.cells),(100,.row 101 2 (zcE l i).length ((zcE l i).flatMap ntC))]) ?_ ?_
  ·rcases hcase with hi0|⟨j0,hij⟩
   ·skip
    refine G [2,3,17] ?_;refine jfZ (za2 (c:=false) (decide_eq_false hkk)) ?_;refine jdY ?_;exact jar
   ·obtain⟨hpv,hple⟩:=hprev j0 hij
    have hpk:(L.drop (j0*5))[0]?=some (.v (.string (peG l j0).key)):=by
     have:=congrArg (fun x=>x[0]?) hpv;exact jcG
    rw[show i-1=j0 by omega]at hd;have hlk:¬leK p.key (peG l j0).key=true:=fun e=>hd (.inl ⟨qp,e⟩)
    skip
    refine G [2,4,7] ?_;refine zaa (zaL U22 sz98 qp qp (show _=L.drop (j0*5)by congr 2;omega)) rfl rfl ?_;refine jfw ?_;refine zaa (zg1 (c:=false) qbe) rfl rfl ?_;refine G [6] ?_;refine jfZ (za2 (c:=false) (decide_eq_false hkk)) ?_;refine jdY ?_;exact zai id _ _ qv qv rfl
  clear hd hprev hcase;obtain⟨DD,hDD⟩:∃b,dupN (zcE l i) p.nets=b:=⟨_,rfl⟩;rw[hDD]at hst;refine G [8] ?_;refine zag (fun m' st=>∃j:Nat,m'+j=p.nets.length∧∃X:List NtP,X.length=(zcE l i).length+j∧DD=dupN X (p.nets.drop j)∧X=zcE l i++p.nets.take j∧st=St.of [(1,.ref 1 0),(4,.row 100),(32,.p (.sl l.length 5 L)),(33,.p (.v (.int .i64 l.length))),(34,.p (.v (.int .i64 i))),(66,.p (.sl p.nets.length 2 (p.nets.flatMap ntC))),(67,.p (.v (.int .i64 p.nets.length))),(68,.p (.v (.int .i64 j)))] [(1,.box 24 (cfC key port l.length L)),(100,.row 101 2 ((zcE l i).length+j) (X.flatMap ntC))]) p.nets.length ?_ ?_
  ·refine⟨_,zai id _ _ ?_ ?_ rfl,0,qp,zcE l i,qp,by rw[qcc];exact hDD.symm,qG,rfl⟩
   ·exact jap
   ·exact jaJ
  rintro m' st ⟨j,hj,X,hX,hdp,hXe,rfl⟩;refine G [5] ?_;refine cX ?_ ?_<;>intro h
  ·have hlj:j<p.nets.length:=qw;clear h;obtain⟨q,hq⟩:=qo hlj;have hch2:=zav (f:=ntC) (k:=2) (fun _=>rfl) hq;have hle2:=zaw (f:=ntC) (k:=2) (fun _=>rfl) hlj
   have hdr:p.nets.drop j=q::p.nets.drop (j+1):=by
    obtain⟨q1,q2⟩:=qbl.1 hq;rw[qbQ q1,q2]
   have htk:p.nets.take (j+1)=p.nets.take j++[q]:=by
    obtain⟨q1,q2⟩:=qbl.1 hq;exact jda
   rw[hdr,dupN]at hdp;obtain⟨qa,qb⟩:=q;have hCt:=containsN_s X qa qb ((zcE l i).length+j) hX qp;have hps:=nt_push X qa qb;have hxl:(X.flatMap ntC).length=((zcE l i).length+j)*2:=by rw[zaO (k:=2) (fun _=>rfl),hX]
   generalize hNL:p.nets.flatMap ntC=NL at*;generalize hXF:X.flatMap ntC=XF at*;refine jfO ?_
   by_cases hm:(qa,qb)∈X
   ·rw[show(decide ((qa,qb)∈X)||dupN (X++[(qa,qb)]) (p.nets.drop (j+1)))=true by simp[hm]]at hdp;rw[if_pos hdp]at hst;rw[hhit (by rw[hst];decide),hst]at hE;subst hE;rw[decide_eq_true hm]at hCt;refine G [5] ?_;refine cV hCt ?_;refine G [6] ?_;exact jaR
   ·rw[show(decide ((qa,qb)∈X)||dupN (X++[(qa,qb)]) (p.nets.drop (j+1)))=dupN (X++[(qa,qb)]) (p.nets.drop (j+1))by simp[hm]]at hdp;rw[decide_eq_false hm]at hCt;refine G [5] ?_;refine cV hCt ?_;refine G [6] ?_;refine jf0 (zae 77 U96 zbw zc101 (qbk rfl) (qbk rfl) rfl rfl rfl rfl (qbk rfl)) ?_;refine zab (zam 78 U96 eo101 (zas) qy qp rfl rfl) rfl rfl ⟨rfl,rfl,rfl,trivial⟩ ?_;refine jdw ?_;refine⟨m'-1,qp,_,zai (fun o=>bif Nat.beq o 100 then 78 else o) _ _ ?_ ?_ rfl,j+1,qp,X++[(qa,qb)],by rw[qbm,hX];rfl,hdp,by rw[htk,←qby,hXe],rfl⟩
    ·exact jap
    ·exact⟨⟨rfl,rfl⟩,⟨by rw[←hps];rfl,rfl⟩,trivial⟩
  have hge:j=p.nets.length:=qw;clear h;subst hge;rw[qbL]at hXe;have hz:dupN X (p.nets.drop p.nets.length)=false:=by rw[List.drop_length];rfl
  rw[hz]at hdp;rw[if_neg (by rw[hdp];decide)]at hst;refine jdC ?_;refine⟨m-1,qp,_,zai id _ _ ?_ ?_ rfl,i+1,qp,fun q hq=>?_,rfl⟩
  ·exact jap
  ·refine⟨⟨rfl,rfl⟩,⟨?_,rfl⟩,trivial⟩;rw[hnx,qbm,←hXe];rfl
  ·exact jbU
 have hge:i=l.length:=qw;clear h;subst hge;rw[zdc hf]at hE;subst hE;refine jdw ?_;exact yE
end Go.Proofs.YtdiljgkijgiboaaGreatDoor
