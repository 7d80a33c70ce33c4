/- Used. -/
import Derived.Test.YtdiljgkijgiboaaGreatDoorSMa2
import Derived.Deep.Slices
import Derived.SizedLaws
import Derived.Laws.CopyRow
set_option linter.all false
namespace Go.Proofs.YtdiljgkijgiboaaGreatDoor
open Go.RowKit Go.Sort
def Ty(P:Program):Nat→TypeId→List PV→Prop
 |0,_,_=>False
 |n+1,t,ps=>match P.underlying t with
  |some .bool=>∃b,ps=[.v (.bool b)]
  |some (.int k)=>∃i,ps=[.v (.int k i)]∧(Lit.int k i).wf=true
  |some .string=>∃s,ps=[.v (.string s)]∧s.size≤reachBytes
  |some (.slice e)=>∃L:List (List PV),ps=[.sl L.length (P.cellsOf e) L.flatten]∧(L.length≤maxLen∧L.length*P.bytesOf e≤reachBytes)∧∀x∈L,Ty P n e x∧x.length=P.cellsOf e
  |some (.struct fs)=>∃L:List (List PV),ps=L.flatten∧L.length=fs.size∧∀(i:Nat) (f:Field) x,fs[i]?=some f→L[i]?=some x→Ty P n f.type x∧x.length=P.cellsOf f.type
  |some (.array m e)=>∃L:List (List PV),ps=L.flatten∧L.length=m∧∀x∈L,Ty P n e x∧x.length=P.cellsOf e
  |_=>False
mutual
def PV.bd(N:Nat):PV→Prop
 | .v x=>match x with
  | .string s=>s.size≤N
  |_=>True
 | .sl n _ cs=>n≤N∧PV.bdL N cs
 | .pt cs=>PV.bdL N cs
def PV.bdL(N:Nat):List PV→Prop
 | []=>True
 |c::cs=>c.bd N∧PV.bdL N cs
end
theorem zio{N:Nat}:∀{l:List PV},PV.bdL N l↔∀x∈l,x.bd N
 | []=>by simp[PV.bdL]
 |c::l=>by simp[PV.bdL,zio (l:=l)]
mutual
theorem bd_mono{N M:Nat}(h:N≤M):∀x:PV,x.bd N→x.bd M
 | .v x,k=>by
  simp only[PV.bd]at k⊢
  split at k
  ·exact qc5 k h
  ·trivial
 | .sl n _ cs,k=>by simp only[PV.bd]at k⊢;exact⟨qc5 k.1 h,zdR h cs k.2⟩
 | .pt cs,k=>by simp only[PV.bd]at k⊢;exact zdR h cs k
theorem zdR{N M:Nat}(h:N≤M):∀l:List PV,PV.bdL N l→PV.bdL M l
 | [],_=>by simp[PV.bdL]
 |c::l,k=>by simp only[PV.bdL]at k⊢;exact⟨bd_mono h c k.1,zdR h l k.2⟩
end
theorem zkb{N:Nat}{L:List (List PV)}(h:∀x∈L,PV.bdL N x):PV.bdL N L.flatten:=by
 rw[zio];intro x hx;obtain⟨l,h1,h2⟩:=List.mem_flatten.1 hx;exact zio.1 (h l h1) x h2
structure Meas{H:Type}(b:DataW H→Nat):Prop where
 str:∀l,l.length≤b (.lit (.string l))
 len:∀(l r:List (DataW H)),l.length≤b (.slice l r)
 el:∀(l r:List (DataW H)),∀x∈l,b x≤b (.slice l r)
 part:∀(l:List (DataW H)),∀x∈l,b x≤b (.agg l)
def zfB(P:Program):List Field→Nat→Option Nat
 | [],off=>some off
 |f::fs,off=>if f.offset=off then zfB P fs (off+P.cellsOf f.type)else none
def zj3(P:Program):Nat→TypeId→Bool
 |0,_=>false
 |n+1,t=>match P.underlying t with
  |some .bool=>true
  |some (.int _)=>true
  |some .string=>true
  |some (.slice e)=>decide (0<P.cellsOf e)&&zj3 P n e
  |some (.struct fs)=>(zfB P fs.toList 0==some (P.cellsOf t))&&fs.toList.all fun f=>zj3 P n f.type
  |some (.array m e)=>(m*P.cellsOf e==P.cellsOf t)&&zj3 P n e
  |_=>false
theorem zdi{S:Nat→Prop}{w:World}:∀{L:List (List PV)} {M:List (List Value)},L.length=M.length→(∀(i:Nat) (x:List PV) (y:List Value),L[i]?=some x→M[i]?=some y→PRepL S w x y)→PRepL S w L.flatten M.flatten
 | [],[],_,_=>by simp[PRepL]
 |x::L,y::M,hl,h=>by
  simp only[qbT];exact(h 0 x y qG qG).append (zdi qaQ fun i a b ha hb=>h (i+1) a b (by simpa using ha) qa9)
theorem cut_parts{α:Type}:∀(n k:Nat) (l:List α),l.length=n*k→((List.range n).map fun i=>(l.drop (i*k)).take k).flatten=l
 |0,k,l,h=>by simp at h;simp[h]
 |n+1,k,l,h=>by
  rw[List.range_succ_eq_map,qbu,qcD,qbT,qc6,qcc]
  have e:((fun i=>(l.drop (i*k)).take k)∘Nat.succ)=fun i=>((l.drop k).drop (i*k)).take k:=by
   funext i
   simp only[Function.comp,qcE]
   congr 2
   rw[Nat.succ_mul,Nat.add_comm]
  rw[e,cut_parts n k (l.drop k) (by rw[qbH,h,qcJ];omega),qb9]
theorem ziI{P:Program}{α:Type}:∀(fs:List Field) (off:Nat) (l:List α),zfB P fs off=some (off+l.length)→(fs.map fun f=>(l.drop (f.offset-off)).take (P.cellsOf f.type)).flatten=l
 | [],off,l,h=>by
  simp only[zfB,Option.some.injEq]at h;have:l=[]:=qbz qp;simp[this]
 |f::fs,off,l,h=>by
  have tl:∀(fs:List Field) (off n:Nat),zfB P fs off=some n→off≤n:=by
   intro fs
   induction fs with
   |nil=>intro off n h;simp only[zfB,Option.some.injEq]at h;omega
   |cons g gs ih=>
    intro off n h;simp only[zfB]at h
    split at h
    ·have:=ih _ _ h;omega
    ·cases h
  simp only[zfB]at h
  split at h
  ·rename_i hf;have hle:=tl _ _ _ h
   have tf:∀(gs:List Field) (o n:Nat),zfB P gs o=some n→∀g∈gs,o≤g.offset:=by
    intro gs
    induction gs with
    |nil=>intro _ _ _ g hg;cases hg
    |cons a aSs ih=>
     intro o n hn g hg;simp only[zfB]at hn
     split at hn
     ·rename_i ha;rcases qbA.1 hg with rfl|hg
      ·omega
      ·have:=ih _ _ hn g hg;omega
     ·cases hn
   have hfs:=tf _ _ _ h;rw[qbu,qbT,hf,qcS,qcc]
   have e:(fs.map fun g=>(l.drop (g.offset-off)).take (P.cellsOf g.type))=fs.map fun g=>((l.drop (P.cellsOf f.type)).drop (g.offset-(off+P.cellsOf f.type))).take (P.cellsOf g.type):=by
    refine qcI fun g hg=>?_
    rw[qcE]
    congr 2
    have:=hfs g hg;omega
   rw[e,ziI fs (off+P.cellsOf f.type) (l.drop (P.cellsOf f.type)) (by rw[h,qbH];congr 1;omega),qb9]
  ·cases h
section
variable {H:Type}{enc:TypeId×Value→H}{P:Program}{w:World}{spare:Nat→Bool}{held:Bool}
theorem zeF{a:Addr}{n:Nat}{cs:List Value}(h:w.cells? 0 a n=some cs):cs.length=n∧∀j v,cs[j]?=some v→w.cell? (a.add j)=some v:=by
 unfold World.cells? at h;rw[if_pos (qc3 _)]at h;have hl:=mapM_some_length h;refine⟨by simpa using hl,fun j v hj=>?_⟩;have hjn:j<n:=by have:=(qbl.1 hj).1;simp at hl;omega
 have:=mapM_some_get h j j (by simp[hjn]);rw[this];exact hj
theorem zds{z:Nat}{d:DataW H}{e:TypeId}:∀{l:List (DataW H)},d∈l→z∈d.weights P e→z∈DataW.weightsAll P e l
 | [],h,_=>by cases h
 |a::l,h,hz=>by
  simp only[DataW.weightsAll,qbD];rcases qbA.1 h with rfl|h
  ·exact .inl hz
  ·exact .inr (zds h hz)
theorem zht:∀(d n:Nat) (t:TypeId) (cs:List Value) (x:DataW H×List MemPlace),zj3 P d t=true→DataW.trod enc P w 0 spare held n t cs=some x→(∀z∈x.1.weights P t,z≤reachBytes)→∃ps,PRepL (fun b=>b<w.heap.size) w ps cs∧Ty P d t ps∧∀b,Meas b→PV.bdL (b x.1) ps
 |0,_,_,_,_,h,_,_=>by simp[zj3]at h
 |d+1,n,t,cs,x,hd,ht,hz=>by
  unfold zj3 at hd;unfold Ty;cases hu:P.underlying t with
  |none=>simp[hu]at hd
  |some u=>
   simp only[hu]at hd⊢;cases u<;>simp only[qbJ]at hd
   case bool=>
    obtain⟨b,rfl,_⟩:=DataW.trod_bool hu ht;exact⟨[.v (.bool b)],by simp only[PRepL,PRep];exact⟨_,_,rfl,⟨rfl,rfl⟩,rfl⟩,⟨b,rfl⟩,fun _ _=>by simp[PV.bdL,PV.bd]⟩
   case int k=>
    obtain⟨i,rfl,_,hw⟩:=DataW.trod_int hu ht;exact⟨[.v (.int k i)],by simp only[PRepL,PRep];exact⟨_,_,rfl,⟨rfl,rfl⟩,rfl⟩,⟨i,rfl,hw⟩,fun _ _=>by simp[PV.bdL,PV.bd]⟩
   case string=>
    obtain⟨s,rfl,hxe,hl⟩:=DataW.trod_string hu ht
    have hl2:s.size≤reachBytes:=by
     refine hz _ ?_;rw[hxe];simp[DataW.weights]
    exact⟨[.v (.string s)],by simp only[PRepL,PRep];exact⟨_,_,rfl,⟨rfl,rfl⟩,rfl⟩,⟨s,rfl,hl2⟩,fun b hb=>by have:=hb.str s.data.toList;rw[hxe];simp only[PV.bdL,PV.bd,and_true];simpa using this⟩
   case slice e=>
    simp only[qbB,decide_eq_true_eq]at hd;rcases Go.Deep.open_slice hu ht with⟨rfl,_⟩|⟨a,len,cap,m,n',D,Pl,rfl,_,hlc,hcm,hm,hxe,hel⟩
    ·refine⟨[.sl 0 (P.cellsOf e) []],?_,⟨[],rfl,qG,qG⟩,fun _ _=>by simp[PV.bdL,PV.bd]⟩;simp only[PRepL,PRep];exact⟨_,_,rfl,⟨none,0,[],rfl,Nat.le_refl _,qG,rfl,.inl trivial⟩,rfl⟩
    ·have hmle:len≤m:=by rw[hm];split<;>omega
     have hby:len*P.bytesOf e≤reachBytes:=by
      have h1:(((List.range len).map D).length+((List.range (m-len)).map fun j=>D (len+j)).length)*P.bytesOf e≤reachBytes:=by
       refine hz _ ?_;rw[hxe];simp[DataW.weights,hu]
      refine qc5 (qb8 _ ?_) h1;simp
     have hzD:∀i,i<len→∀z∈(D i).weights P e,z≤reachBytes:=fun i hi z hz'=>by
      refine hz z ?_;rw[hxe];simp only[DataW.weights,hu];exact List.mem_cons_of_mem _ (qco _ (zds (qbv.2 ⟨i,by simpa using hi,rfl⟩) hz'))
     have hall:∀i,∃p:List Value×List PV,i<len→w.cells? 0 (a.add (i*P.cellsOf e)) (P.cellsOf e)=some p.1∧PRepL (fun b=>b<w.heap.size) w p.2 p.1∧Ty P d e p.2∧∀b,Meas b→PV.bdL (b (D i)) p.2:=by
      intro i
      by_cases hi:i<len
      ·obtain⟨cs',h1,h2⟩:=hel i qp;obtain⟨ps,h3,h4,h5⟩:=zht d n' e cs' _ hd.2 h2 (hzD i hi);exact⟨(cs',ps),fun _=>⟨h1,h3,h4,h5⟩⟩
      ·exact⟨([],[]),fun h=>absurd h hi⟩
     obtain⟨F,hF⟩:=Classical.axiomOfChoice hall;have hLl:((List.range len).map fun i=>(F i).2).length=len:=qG
     have hget:∀i x,((List.range len).map fun i=>(F i).2)[i]?=some x→i<len∧x=(F i).2:=by
      intro i x hx;have hi:i<len:=qaL;simp[hi]at hx;exact⟨hi,hx.symm⟩
     have hsz:∀i,i<len→(F i).2.length=P.cellsOf e:=fun i hi=>by
      obtain⟨h1,h2,_⟩:=hF i hi;have:=h2.length;have h3:=(zeF h1).1;omega
     refine⟨[.sl len (P.cellsOf e) ((List.range len).map fun i=>(F i).2).flatten],?_,⟨(List.range len).map fun i=>(F i).2,by rw[hLl],by rw[hLl];exact⟨qp,hby⟩,?_⟩,?_⟩
     ·simp only[PRepL,PRep];refine⟨_,_,rfl,⟨some a,cap,((List.range len).map fun i=>(F i).1).flatten,rfl,hlc,?_,?_,?_⟩,rfl⟩
      ·have:∀l:List Nat,(∀i∈l,i<len)→(l.map fun i=>(F i).2).flatten.length=l.length*P.cellsOf e:=by
        intro l
        induction l with
        |nil=>intro _;simp
        |cons i l ih=>
         intro hl;simp only[qbu,qbT,qbm,qbE];rw[ih fun j hj=>hl j (by simp[hj]),hsz i (hl i (by simp)),qcJ];omega
       rw[this _ fun i hi=>by simpa using hi,List.length_range]
      ·refine zdi qG fun i x y hx hy=>?_
       obtain⟨hi,rfl⟩:=hget i x hx;have hy':y=(F i).1:=by simp[hi]at hy;exact hy.symm
       rw[hy'];exact(hF i hi).2.1
      ·by_cases h0:len=0
       ·exact .inl h0
       ·right
        have h0':0<len:=qp;have c0:=zeF (hF 0 h0').1;obtain⟨v0,hv0⟩:∃v,(F 0).1[0]?=some v:=⟨_,List.getElem?_eq_getElem (by rw[c0.1];exact hd.1)⟩;have hc0:=c0.2 0 v0 hv0;rw[qc6]at hc0;obtain⟨b,off,spot⟩:=a;have hadd0:((⟨b,off,spot⟩:Addr).add 0).add 0=⟨b,off,spot⟩:=by simp[Addr.add]
        rw[hadd0]at hc0;have hspot:spot=none:=by simpa using World.cell?_spot hc0
        subst hspot;refine⟨b,off,rfl,World.block_lt_of_cell? w _ hc0,fun j v hj=>?_⟩;have hk:0<P.cellsOf e:=hd.1
        have key:∀(n:Nat) (j:Nat) (v:Value),n≤len→(((List.range n).map fun i=>(F i).1).flatten)[j]?=some v→w.cell? ⟨b,off+j,none⟩=some v:=by
         intro n
         induction n with
         |zero=>intro j v _ hj;simp at hj
         |succ n ih=>
          intro j v hn hj
          have hlen:(((List.range n).map fun i=>(F i).1).flatten).length=n*P.cellsOf e:=by
           have:∀l:List Nat,(∀i∈l,i<len)→(l.map fun i=>(F i).1).flatten.length=l.length*P.cellsOf e:=by
            intro l
            induction l with
            |nil=>intro _;simp
            |cons i l ih2=>
             intro hl;simp only[qbu,qbT,qbm,qbE];rw[ih2 fun j hj=>hl j (by simp[hj]),(zeF (hF i (hl i (by simp))).1).1,qcJ];omega
           rw [this _ fun i hi => by have : i < n := by simpa using hi
                                     omega,List.length_range]
          rw[qcw,qbY,List.flatten_append,List.getElem?_append,hlen]at hj
          split at hj
          ·exact ih j v qp hj
          ·rename_i hge;simp only[qbu,List.map_nil,qbT,List.flatten_nil,List.append_nil]at hj;have:=(zeF (hF n qp).1).2 _ v hj;rw[Addr.add_mid,Addr.add_mid]at this;rw[←this]
           congr 2
           omega
        exact key len j v (Nat.le_refl _) hj
     ·intro x hx;obtain⟨i,hi,rfl⟩:=qbv.1 hx;have hi':i<len:=qai;exact⟨(hF i hi').2.2.1,hsz i hi'⟩
     ·intro b hb;rw[hxe];have h1:=hb.len ((List.range len).map D) ((List.range (m-len)).map fun j=>D (len+j));have h2:=hb.el ((List.range len).map D) ((List.range (m-len)).map fun j=>D (len+j));simp only[PV.bdL,PV.bd,and_true];refine⟨by simpa using h1,zkb fun x hx=>?_⟩;obtain⟨i,hi,rfl⟩:=qbv.1 hx;have hi':i<len:=qai;exact zdR (h2 (D i) (qbv.2 ⟨i,hi,rfl⟩)) _ ((hF i hi').2.2.2 b hb)
   case struct fs=>
    simp only[qbB,beq_iff_eq,qbX]at hd;obtain⟨xs,n',_,hxe,hl,hxl,hx⟩:=DataW.trod_struct hu ht
    have hall:∀f:Field,∃ps:List PV,f∈fs.toList→PRepL (fun b=>b<w.heap.size) w ps ((cs.drop f.offset).take (P.cellsOf f.type))∧Ty P d f.type ps∧∀b,Meas b→PV.bdL (b x.1) ps:=by
     intro f
     by_cases hf:f∈fs.toList
     ·obtain⟨i,hi,he⟩:=qcp.1 hf;have hi':i<fs.size:=qai;have hfi:fs[i]?=some f:=by rw[qct hi'];simpa using he
      have:=hx i f hfi;rw[List.getElem?_eq_getElem (by omega)]at this
      obtain⟨ps,h3,h4,h5⟩:=zht d n' f.type _ _ (hd.2 f hf) this fun z hz'=>by
       refine hz z ?_;rw[hxe];simp only[DataW.weights,hu];exact DataW.weights_mem_each (j:=i) (by rw[qbM,show fs.toList[i]?=some f by simpa using hfi];rfl) (by rw[qbM,List.getElem?_eq_getElem (by omega)];rfl) z hz'
      refine⟨ps,fun _=>⟨h3,h4,fun b hb=>zdR ?_ _ (h5 b hb)⟩⟩;rw[hxe];exact hb.part _ _ (qbv.2 ⟨_,qcY _,rfl⟩)
     ·exact⟨[],fun h=>absurd h hf⟩
    obtain⟨F,hF⟩:=Classical.axiomOfChoice hall;have hcut:=ziI (P:=P) fs.toList 0 cs (by rw[hd.1,hl,qbO]);simp only[Nat.sub_zero]at hcut;refine⟨(fs.toList.map F).flatten,?_,⟨fs.toList.map F,rfl,qG,fun i f x hi hx=>?_⟩,fun b hb=>zkb fun y hy=>?_⟩
    ·rw[←hcut];refine zdi qG fun i x y hx hy=>?_
     simp only[qbM,qcK]at hx hy;obtain⟨f,h1,rfl⟩:=hx;obtain⟨f',h2,rfl⟩:=hy;rw[h1]at h2;cases h2;exact(hF f (qbo h1)).1
    ·simp only[qbM,qcK]at hx;obtain⟨f',h1,rfl⟩:=hx;have h2:fs.toList[i]?=some f:=qai;rw[h2]at h1;cases h1;have hmem:=qbo h2;obtain⟨k1,k2,_⟩:=hF f hmem;refine⟨k2,?_⟩;have k3:=k1.length;rw[←k3,List.length_take,qbH]
     have tb:∀(gs:List Field) (o n:Nat),zfB P gs o=some n→∀g∈gs,g.offset+P.cellsOf g.type≤n:=by
      intro gs
      induction gs with
      |nil=>intro _ _ _ g hg;cases hg
      |cons a aSs ih=>
       intro o n hn g hg;simp only[zfB]at hn
       split at hn
       ·rename_i ha;rcases qbA.1 hg with rfl|hg
        ·have tl:∀(fs:List Field) (off n:Nat),zfB P fs off=some n→off≤n:=by
          intro fs
          induction fs with
          |nil=>intro off n h;simp only[zfB,Option.some.injEq]at h;omega
          |cons g gs ih=>
           intro off n h;simp only[zfB]at h
           split at h
           ·have:=ih _ _ h;omega
           ·cases h
         have:=tl _ _ _ hn;omega
        ·exact ih _ _ hn g hg
       ·cases hn
     have:=tb _ _ _ hd.1 f hmem;omega
    ·obtain⟨f,h1,rfl⟩:=qbv.1 hy;exact(hF f h1).2.2 b hb
   case array m e=>
    simp only[qbB,beq_iff_eq]at hd;obtain⟨xs,n',_,hxe,hl,hxl,hx⟩:=DataW.trod_array hu ht
    have hall:∀i:Nat,∃ps:List PV,i<m→PRepL (fun b=>b<w.heap.size) w ps ((cs.drop (i*P.cellsOf e)).take (P.cellsOf e))∧Ty P d e ps∧∀b,Meas b→PV.bdL (b x.1) ps:=by
     intro i
     by_cases hi:i<m
     ·have:=hx i hi;rw[List.getElem?_eq_getElem (by omega)]at this
      obtain⟨ps,h3,h4,h5⟩:=zht d n' e _ _ hd.2 this fun z hz'=>by
       refine hz z ?_;rw[hxe];simp only[DataW.weights,hu];exact zds (qbv.2 ⟨_,qcY _,rfl⟩) hz'
      refine⟨ps,fun _=>⟨h3,h4,fun b hb=>zdR ?_ _ (h5 b hb)⟩⟩;rw[hxe];exact hb.part _ _ (qbv.2 ⟨_,qcY _,rfl⟩)
     ·exact⟨[],fun h=>absurd h hi⟩
    obtain⟨F,hF⟩:=Classical.axiomOfChoice hall;have hcut:=cut_parts m (P.cellsOf e) cs (by rw[hl,hd.1]);refine⟨((List.range m).map F).flatten,?_,⟨(List.range m).map F,rfl,qG,fun x hx=>?_⟩,fun b hb=>zkb fun y hy=>?_⟩
    ·rw[←hcut];refine zdi qG fun i x y hx hy=>?_
     have hi:i<m:=qaL;simp[hi]at hx hy;rw[←hx,←hy];exact(hF i hi).1
    ·obtain⟨i,hi,rfl⟩:=qbv.1 hx;have hi':i<m:=qai;obtain⟨k1,k2,_⟩:=hF i hi';refine⟨k2,?_⟩;rw[←k1.length,List.length_take,qbH,hl,←hd.1];have:i*P.cellsOf e+P.cellsOf e≤m*P.cellsOf e:=by rw[←Nat.succ_mul];exact qb8 _ hi'
     omega
    ·obtain⟨i,hi,rfl⟩:=qbv.1 hy;exact(hF i qai).2.2 b hb
def argAV(row:Bool)(ps:List PV):AV:=bif row then .agg (ps.map AV.p)else match ps with
 | [x]=>.p x
 |_=>.any
theorem arg_repB{t:TypeId}{u:TypeDesc}{d:Nat}{v:Value}{dd:DataW H}{pl:List MemPlace}{r:Reach}{b0:Nat}(hu:P.underlying t=some u)(hd:zj3 P d t=true)(hval:Value.okWide P w r b0 t v)(ht:DataW.Trod enc P w 0 spare held t v dd pl)(hz:∀z∈dd.weights P t,z≤reachBytes):
 ∃ps,Ty P d t ps∧(∀b,Meas b→PV.bdL (b dd) ps)∧Rep (fun b=>b<w.heap.size) (fun _=>none) w (argAV u.isRow ps) v:=by
 obtain⟨n,hn⟩:=ht;obtain⟨ps,h1,h2,hbd⟩:=zht d n t _ _ hd hn hz;refine⟨ps,h2,hbd,?_⟩
 have scalar:u.isRow=false→v.cells= #[v]→Rep (fun b=>b<w.heap.size) (fun _=>none) w (argAV u.isRow ps) v:=by
  intro e1 e2;rw[e2]at h1;have hl:=h1.length
  match ps,hl with
  | [x],_=>
   rw[e1];simp only[PRepL]at h1;obtain⟨a,aSs,h3,h4,h5⟩:=h1;simp only[List.cons.injEq]at h3;show Rep _ _ _ (.p x) v;simp only[Rep];rw[h3.1];exact h4
 have agg:∀cs:Array Value,v=.agg cs→u.isRow=true→Rep (fun b=>b<w.heap.size) (fun _=>none) w (argAV u.isRow ps) v:=by
  intro cs e1 e2;subst e1;rw[e2];show Rep _ _ _ (.agg (ps.map AV.p)) _;simp only[Rep];exact⟨cs.toList,qG,h1.repL,h1.one⟩
 cases d with
 |zero=>simp[zj3]at hd
 |succ d=>
  unfold zj3 at hd;rw[hu]at hd;cases u<;>simp only[qbJ]at hd
  case bool=>obtain⟨b,rfl⟩:=Go.WideShapes.okWide_bool hu hval;exact scalar rfl rfl
  case int k=>obtain⟨i,rfl⟩:=Go.WideShapes.okWide_int hu hval;exact scalar rfl rfl
  case string=>obtain⟨s,rfl⟩:=Go.WideShapes.okWide_string hu hval;exact scalar rfl rfl
  case slice e=>obtain⟨a,len,cap,rfl⟩:=Go.WideShapes.okWide_slice hu hval;exact scalar rfl rfl
  case struct fs=>obtain⟨cs,rfl,_⟩:=Go.WideShapes.okWide_struct hu hval;exact agg cs rfl rfl
  case array m e=>
   simp only[Value.okWide,hu]at hval;obtain⟨cs,rfl,_⟩:=hval;exact agg cs rfl rfl
end
theorem zbz{P:Program}{n t:Nat}{k:IntKind}{ps:List PV}(hu:P.underlying t=some (.int k))(hT:Ty P (n+1) t ps):∃i,ps=[.v (.int k i)]∧(Lit.int k i).wf=true:=by
 unfold Ty at hT;simpa only[hu]using hT
theorem zhI{P:Program}{n t:Nat}{ps:List PV}(hu:P.underlying t=some .bool)(hT:Ty P (n+1) t ps):∃b,ps=[.v (.bool b)]:=by
 unfold Ty at hT;simpa only[hu]using hT
theorem zb2{P:Program}{n t:Nat}{ps:List PV}(hu:P.underlying t=some .string)(hT:Ty P (n+1) t ps):∃s,ps=[.v (.string s)]∧s.size≤reachBytes:=by
 unfold Ty at hT;simpa only[hu]using hT
theorem zf2{P:Program}{n t e sz:Nat}{ps:List PV}(hu:P.underlying t=some (.slice e))(hs:P.cellsOf e=sz)(hT:Ty P (n+1) t ps):∃L:List (List PV),ps=[.sl L.length sz L.flatten]∧L.length≤maxLen∧∀x∈L,Ty P n e x∧x.length=sz:=by
 unfold Ty at hT;subst hs;simp only[hu]at hT;obtain⟨L,h1,h2,h3⟩:=hT;exact⟨L,h1,h2.1,h3⟩
theorem zhH{P:Program}{n t e sz:Nat}{ps:List PV}(hu:P.underlying t=some (.slice e))(hs:P.cellsOf e=sz)(hT:Ty P (n+1) t ps):∃L:List (List PV),ps=[.sl L.length sz L.flatten]∧L.length*P.bytesOf e≤reachBytes∧∀x∈L,Ty P n e x∧x.length=sz:=by
 unfold Ty at hT;subst hs;simp only[hu]at hT;obtain⟨L,h1,h2,h3⟩:=hT;exact⟨L,h1,h2.2,h3⟩
theorem wf_u8{i:Int}(h:(Lit.int .u8 i).wf=true):0≤i∧i<256:=by
 exact jad
theorem zfZ{i:Int}(h:(Lit.int .i64 i).wf=true): -9223372036854775808≤i∧i≤9223372036854775807:=by
 exact jad
theorem wf_u64{i:Int}(h:(Lit.int .u64 i).wf=true):0≤i∧i<18446744073709551616:=by
 exact jad
theorem wf_u32{i:Int}(h:(Lit.int .u32 i).wf=true):0≤i∧i<4294967296:=by
 exact jad
theorem zgZ{P:Program}{n e:Nat}(he:P.underlying e=some (.int .u8)):∀{L:List (List PV)},(∀x∈L,Ty P (n+1) e x)→∃xs:List Int,xs.length=L.length∧L.flatten=bs xs∧∀x∈xs,0≤x∧x<256
 | [],_=>⟨[],rfl,rfl,qG⟩
 |x::L,h=>by
  obtain⟨xs,h1,h2,h3⟩:=zgZ he (L:=L) fun y hy=>h y qa3
  obtain⟨i,rfl,hw⟩:=zbz he (h x qG);refine⟨i::xs,by simp[h1],by rw[qbT,h2];rfl,fun y hy=>?_⟩;rcases qbA.1 hy with rfl|hy
  ·exact wf_u8 hw
  ·exact h3 y hy
theorem ty_bytes{P:Program}{n t e:Nat}{ps:List PV}(hu:P.underlying t=some (.slice e))(he:P.underlying e=some (.int .u8))(hs:P.cellsOf e=1)(hT:Ty P (n+2) t ps):∃xs:List Int,ps=[.sl xs.length 1 (bs xs)]∧xs.length≤maxLen∧∀x∈xs,0≤x∧x<256:=by
 obtain⟨L,rfl,hl,h⟩:=zf2 hu hs hT;obtain⟨xs,h1,h2,h3⟩:=zgZ he fun x hx=>(h x hx).1
 exact⟨xs,by rw[h1,h2],qp,h3⟩
theorem ty_bytesS{P:Program}{n t e:Nat}{ps:List PV}(hu:P.underlying t=some (.slice e))(he:P.underlying e=some (.int .u8))(hs:P.cellsOf e=1)(hb:P.bytesOf e=1)(hT:Ty P (n+2) t ps):∃xs:List Int,ps=[.sl xs.length 1 (bs xs)]∧xs.length≤reachBytes∧∀x∈xs,0≤x∧x<256:=by
 obtain⟨L,rfl,hl,h⟩:=zhH hu hs hT;obtain⟨xs,h1,h2,h3⟩:=zgZ he fun x hx=>(h x hx).1
 rw[hb,qbU]at hl;exact⟨xs,by rw[h1,h2],qp,h3⟩
theorem fn_below{P:Program}{f:FuncId}{args:List AV}{r:Value}(hr:r.oneCell'=true)(h:∀(w:World) (A:Nat→Prop) (us:List Value),(∀b,A b→b<w.heap.size)→RepL A (fun _=>none) w args us→
 Calls P f us.toArray w fun e w'=>e=.returned r∧Below w.heap.size w w'):Fn P f args (.p (.v r)) []:=by
 intro w A us hA hG hus;refine(h w A us hA hus).mono ?_;rintro e w' ⟨rfl,hb⟩;refine⟨r,rfl,A,fun _=>none,by simp only[Rep,PRep,true_and];exact hr,hb,fun b hb=>.inl hb,fun b h=>qca (hA b h) hb.size,fun o _=>rfl,fun o ob ho=>qaN,fun o o' ob ob' v v' b ho=>qaN,hG⟩
theorem repL_vs{S:Nat→Prop}{m:Nat→Option Value}{w:World}:∀{vs us:List Value},RepL S m w (vs.map fun v=>.p (.v v)) us→us=vs
 | [],us,h=>by simpa only[List.map_nil,RepL]using h
 |v::vs,us,h=>by
  simp only[qbu,RepL]at h;obtain⟨u,us,rfl,h2,h3⟩:=h;simp only[Rep,PRep]at h2;rw[h2.1,repL_vs h3]
theorem zhy{P:Program}{f:FuncId}(vs:List Value){r:Value}(hr:r.oneCell'=true)(h:∀w:World,Calls P f vs.toArray w fun e w'=>e=.returned r∧w'=w):Fn P f (vs.map fun v=>.p (.v v)) (.p (.v r)) []:=by
 refine fn_below hr fun w A us hA hus=>?_
 rw[repL_vs hus];exact(h w).mono fun e w' ⟨h1,h2⟩=>⟨h1,by rw[h2];exact Below.refl _ _⟩
theorem zca{st:St}(t o e size:Nat)(ht:st.tmps t=.p (.v (.slice none 0 0)))(ho:st.heap o=.un):Re st ((st.upd [(o,.live (.row e size 0 []))]).put (some t) (.row o)):=by
 rintro w0 A nt a w ⟨⟨S,m,hm,hj,hr⟩,hsz,hd⟩;have hmo:=hm.un o ho
 have g:Grow S m w S (fun x=>if x=o then some (.slice none 0 0)else m x) w:=⟨fun _ h=>h,fun _ _=>rfl,fun x v h=>by
  by_cases hx:x=o
  ·subst hx;rw[hmo]at h;cases h
  ·simp only[if_neg hx];exact h⟩
 refine⟨⟨S,fun x=>if x=o then some (.slice none 0 0)else m x,?_,hj,fun t'=>?_⟩,hsz,hd⟩
 ·rw[zes];refine⟨hm.bel,hm.sA,hm.sW,fun x hx=>?_,fun x ob hx=>?_,fun x x' ob ob' v v' b hx hx' hv hv' hb hb'=>?_,hm.gl⟩
  ·by_cases e1:x=o
   ·subst e1;simp[St.upd,updL]at hx
   ·simp only[if_neg e1];refine hm.un x ?_;simpa[St.upd,updL,nbeq e1]using hx
  ·by_cases e1:x=o
   ·subst e1;simp[St.upd,updL]at hx;subst hx;refine⟨.slice none 0 0,qG,⟨[],by simp[PRepL],qG,.inl ⟨rfl,rfl⟩⟩,fun b hb=>by simp[blk]at hb⟩
   ·have hx':st.heap x=.live ob:=by simpa[St.upd,updL,nbeq e1]using hx
    obtain⟨v,h1,h2,h3⟩:=hm.live x ob hx';exact⟨v,by simp only[if_neg e1];exact h1,h2.mono g fun _ _=>rfl,h3⟩
  ·by_cases e1:x=o
   ·subst e1;simp at hv;subst hv;simp[blk]at hb
   ·by_cases e2:x'=o
    ·subst e2;simp at hv';subst hv';simp[blk]at hb'
    ·simp only[if_neg e1]at hv;simp only[if_neg e2]at hv';exact hm.inj x x' ob ob' v v' b (by simpa[St.upd,updL,nbeq e1]using hx) (by simpa[St.upd,updL,nbeq e2]using hx') hv hv' hb hb'
 ·by_cases e1:t'=t
  ·subst e1;have:=hr t';rw[ht]at this;simp only[Rep,PRep]at this;simp only[St.put,qcq,cond_true,Rep];rw[this.1];exact⟨qG,_,_,_,rfl⟩
  ·have hb:Nat.beq t' t=false:=nbeq e1;simp only[St.put,hb,cond_false,St.upd];exact Rep.mono g _ _ (hr t')
section
variable {P:Program}{d:Option Tmp}{ty:TypeId}{pos:String}{af:Array Edge}{g:Option (Nat×Bool)}
theorem zbe{t e:TypeId}{size:Nat}(d':Nat)(hu:P.underlying t=some (.slice e))(hi:(P.info? e).map (·.size)=some size):
 AOp P ⟨d,.buildSlice t 0 #[],ty,pos,af,g⟩ [] [(d',.un)] [(d',.live (.row e size 0 []))] (.row d'):=by
 intro w0 A S mm heap w ev hm hR hrd;have hd':heap d'=.un:=rd1 hrd
 have hex:(execOp ev ⟨d,.buildSlice t 0 #[],ty,pos,af,g⟩).run P w=.ok (.value (.slice (some ⟨w.heap.size,0,none⟩) 0 0)) (w.alloc (.cells #[] e)):=by
  cases hq:P.info? e with
  |none=>simp[hq]at hi
  |some i=>
   simp[hq]at hi;simp only[execOp,Instr.buildSlice,qbw,run_underlying hu,qbr,zbr (P:=P) (t:=e) (n:=size) (by rw[hq];simp[hi]),qc6,show¬(0>2^24)by omega,if_false,if_true,qbx];simp[Instr.fill,newRow,show Array.range 0= #[]from rfl]
 unfold Out;rw[hex];have hb:Below w.heap.size w (w.alloc (.cells #[] e)):=(Below.refl _ _).alloc (Nat.le_refl _) _;have hgr:=zey hm hb hd' (.slice (some ⟨w.heap.size,0,none⟩) 0 0)
 obtain⟨f1,f2⟩:=zev hm hb d' hd' (.slice (some ⟨w.heap.size,0,none⟩) 0 0) (.row e size 0 []) (fun b hb=>by simp[blk]at hb;omega)
  ⟨[],by simp[PRepL],qG,.inr ⟨w.heap.size,0,#[],(0,0),rfl,hm.hB,heap_alloc_new w _,.inl rfl,Nat.le_refl _,qc3 _,qG,qG⟩⟩
 exact jac
end
def isB(l:List Int):Prop:=∀x∈l,0≤x∧x<256
theorem zju{α:Type}{l:List α}{i:Nat}{x:α}(h:i<l.length):setR l i [x]=l.set i x:=by
 rw[List.set_eq_take_append_cons_drop,if_pos h];simp[setR]
theorem zfV{xs:List Int}{i:Nat}{x:Int}(h:xs[i]?=some x):(bs xs)[i]?=some (.v (.int .u8 x)):=by simp[bs,h]
theorem zeK{xs:List Int}{i:Nat}{x:Int}(h:i<xs.length):setR (bs xs) i [.v (.int .u8 x)]=bs (xs.set i x):=by
 rw[zju (by simpa[bs]using h),bs,bs,List.map_set]
theorem zce{xs:List Int}{x:Int}:bs xs++[.v (.int .u8 x)]=bs (xs++[x]):=by simp[bs]
theorem za5{xs ys:List Int}:bs xs++bs ys=bs (xs++ys):=by simp[bs]
theorem sb_isB(s:ByteArray):isB (sb s):=by
 intro x hx;obtain⟨c,_,rfl⟩:=qbv.1 hx;have:=c.toNat_lt;omega
def sAt(s:ByteArray)(i:Nat):Int:=(sb s).getD i 0
theorem sb_at{s:ByteArray}{i:Nat}(h:i<s.size):(sb s)[i]?=some (sAt s i):=by
 have h':i<(sb s).length:=by rw[zdt];exact h
 rw[sAt,List.getD_eq_getElem?_getD,List.getElem?_eq_getElem h'];rfl
theorem zjv{s:ByteArray}{i:Nat}(h:i<s.size):(s.data.toList[i]?).map (fun b:UInt8=>((b.toNat:Nat):Int))=some (sAt s i):=by
 rw[←sb_at h,sb,qbM]
theorem sAt_B{s:ByteArray}{i:Nat}(h:i<s.size):0≤sAt s i∧sAt s i<256:=sb_isB s _ (qbo (sb_at h))
theorem zfO(n:Nat)(hn:n<9223372036854775808):bits .and .i64 (n:Int) 1=((n%2:Nat):Int):=by
 have e:(1:Int)=((1:Nat):Int):=rfl
 have h1:(BitVec.ofInt 64 (n:Int)).toNat=n:=by
  rw[BitVec.ofInt_natCast,BitVec.toNat_ofNat];exact Nat.mod_eq_of_lt qp
 have h2:(BitVec.ofInt 64 (1:Int)).toNat=1:=qS;show IntKind.i64.wrap ((BitVec.ofInt 64 (n:Int) &&& BitVec.ofInt 64 1).toNat:Int)=_;rw[qcN,h1,h2,Nat.and_one_is_mod,IntKind.wrap_i64];omega
theorem zhw{w0:World}{A S:Nat→Prop}{m:Nat→Option Value}{heap:Nat→Slot}{w w':World}(hm:Mem w0 A S m heap w){o:Nat}{ob ob':AObj}{v:Value}{b:Nat}(hl:heap o=.live ob)(hv:m o=some v)(hb:blk v=some b)
 (q1:w'.os=w.os) (q2:w'.tape=w.tape) (q3:w'.output=w.output) (q4:w'.heap.size=w.heap.size) (q5:∀k,k≠b→w'.heap[k]?=w.heap[k]?) (ho:ORep w0.heap.size S m w' ob' v):
 Mem w0 A S m (updL heap [(o,.live ob')]) w'∧Grow S m w S m w':=by
 obtain⟨v',k1,k2,k3⟩:=hm.live o ob hl;rw[hv]at k1;cases k1;have hlt:=k2.lt hb;have g:Grow S m w S m w':=⟨fun _ h=>h,fun c hS=>q5 c (fun e=>k3 b hb (e▸hS)),fun _ _ h=>h⟩;have hbw:Below w0.heap.size w w':=⟨q1,q2,q3,qp,fun k hk=>q5 k qp⟩;refine⟨⟨hm.bel.trans hbw,hm.sA,fun b' h=>by have:=hm.sW b' h;omega,fun o' ho'=>?_,fun o' ob2 ho'=>?_,fun o1 o2 ob1 ob2 v1 v2 b' h1 h2 h3 h4 h5 h6=>?_,hm.gl⟩,g⟩
 ·exact jam
 ·by_cases e:o'=o
  ·exact jan
  ·simp only[updL,nbeq e,cond_false]at ho';obtain⟨u,j1,j2,j3⟩:=hm.live o' ob2 ho';exact⟨u,j1,j2.mono g fun b' hb'=>q5 b' (fun eb=>by subst eb;exact e (hm.inj _ _ _ _ _ _ _ ho' hl j1 hv hb' hb)),j3⟩
 ·exact jab
section
variable {P:Program}{d:Option Tmp}{ty:TypeId}{pos:String}{af:Array Edge}{g:Option (Nat×Bool)}
theorem a_copy{s x:Operand}{t t2 e:TypeId}{o n m:Nat}{cs ys es:List PV}{X:AV}{rds:List (Nat×Slot)}(hu:P.underlying t=some (.slice e))(hi:(P.info? e).map (·.size)=some 1)(hs:Src rds X m 1 ys)(h1:1≤m)(hmn:m≤n)(hcs:cs.length=n)(h:setR cs 0 ys=es):
 AOp P ⟨d,.call {callee:=.builtin .copy,args:= #[s,x],argTypes:= #[t,t2]},ty,pos,af,g⟩ [.row o,X] ((o,.live (.row e 1 n cs))::rds) [(o,.live (.row e 1 n es))] (.p (.v (.int .i64 m))):=by
 intro w0 A S mm heap w ev hm hR hrd;have ho:heap o=.live (.row e 1 n cs):=hrd (o,_) qG;obtain⟨hx,hy⟩:=zb9 (u:=ev s) (v:=ev x) hR;obtain⟨a,c,vs,e1,e2,e3,e4,e5⟩:=hs w0 A S mm heap w _ hm (fun p hp=>hrd p qbf) hy;simp only[Rep]at hx;obtain⟨hx,_⟩:=hx;obtain⟨v,k1,k2,k3⟩:=hm.live o _ ho;rw[hx]at k1;have k1:=Option.some.inj k1;have hk2:=k2;obtain⟨us,j1,j2,j3⟩:=k2;rw[qbU]at e3 j2;rcases j3 with⟨rfl,h0⟩|⟨b',cap,cur,fz,rfl,g1,g2,g3,g4,g5,g6,g7⟩
 ·omega
 rw[qbU]at g6 g7
 obtain⟨ad,rfl⟩:∃ad,a=some ad:=by
  cases a with
  |none=>exact absurd (e4 rfl) qp
  |some ad=>exact⟨ad,rfl⟩
 have hl:=run_loadCells_list (P:=P) w ad vs (e5 ad rfl);have hst:=zch P b' 0 e fz vs 0 cur w g2 g3.cells qp e2.one;have hmin:Nat.min vs.length n=vs.length:=Nat.min_eq_left qp
 have hex:(execOp ev ⟨d,.call {callee:=.builtin .copy,args:= #[s,x],argTypes:= #[t,t2]},ty,pos,af,g⟩).run P w=.ok (.value (.int .i64 m)) (w.setRow b' (setR cur.toList 0 vs).toArray):=by
  cases hq:P.info? e with
  |none=>simp[hq]at hi
  |some i=>
   have hi':i.size=1:=by simpa[hq]using hi
   simp only[qbO,qb4]at hst;simp[execOp,resolve,invoke,builtin,k1,e1,Builtin.copy_,run_underlying hu,Builtin.lenOf,Builtin.firstCells,sizeOf,typeInfo,hq,hi',hmin,←e3,hl,hst,setR,goInt]
 unfold Out;rw[hex];have hbs:∀b,blk (.slice (some ⟨b',0,none⟩) n cap)=some b→¬S b:=k3;have hgr:Grow S mm w S mm (w.setRow b' (setR cur.toList 0 vs).toArray):=⟨fun _ h=>h,fun c hS=>setRow_other w b' c _ (fun e=>hbs b' rfl (e▸hS)),fun _ _ h=>h⟩
 have htake:(setR cur.toList 0 vs).take n=setR us 0 vs:=by
  rw[←g7];simp only[setR,qcb,qb0,qbO];rw[List.take_append,qbC (by omega),List.drop_take]
 have hfit:0+vs.length≤cur.toList.length:=by simp only[qch];omega
 have hfit2:0+vs.length≤us.length:=qp
 obtain⟨f1,f2⟩:=zgg hm (ob':=.row e 1 n es) (v:=.slice (some ⟨b',0,none⟩) n cap) (b:=b') (setR cur.toList 0 vs).toArray (cur:=cur) (t:=e) (fz:=fz) ho (by rw[hx,k1]) rfl
  ⟨setR us 0 vs,h▸PRepL.mono hgr.s hgr.w _ _ (j1.setR 0 e2),by rw[zbV hfit2,qbU];exact j2,.inr ⟨b',cap,_,fz,rfl,g1,setRow_heap w b' _ _ e fz g2,by
   have:(setR cur.toList 0 vs).toArray.size=cur.size:=qau
   rw[this];exact g3,g4,g5,by simp only[qcF];rw[zbV hfit,qbU];simpa using g6,by rw[qbU];simpa using htake⟩⟩
 exact⟨S,mm,za7 rfl,f1,f2⟩
theorem zfb{x:Operand}{t e:TypeId}{o n:Nat}{cs:List PV}(hu:P.underlying t=some (.slice e))(he:P.underlying e=some (.int .u8))(hn:0<n):
 AOp P ⟨d,.convert t t x,ty,pos,af,g⟩ [.row o] [(o,.live (.row e 1 n cs))] [(o,.live (.row e 1 n cs))] (.row o):=by
 intro w0 A S mm heap w ev hm hR hrd;have ho:heap o=.live (.row e 1 n cs):=rd1 hrd;have hx:=zco (u:=ev x) hR;simp only[Rep]at hx;obtain⟨hx,hx2⟩:=hx;obtain⟨v,k1,k2,k3⟩:=hm.live o _ ho;rw[hx]at k1;have k1:=Option.some.inj k1;obtain⟨us,j1,j2,j3⟩:=k2;rcases j3 with⟨rfl,h0⟩|⟨b,cap,cur,fz,rfl,g1,g2,g3,g4,g5,g6,g7⟩
 ·omega
 obtain⟨fz',hw,hf⟩:∃fz',w.freeze ⟨b,cur.size,none⟩ 1={w with heap:=w.heap.modify b fun _=>.cells cur e fz'}∧noFz fz' cur.size:=by
  refine⟨if fz.1==fz.2 then(cur.size,cur.size+1)else(min fz.1 cur.size,max fz.2 (cur.size+1)),?_,?_⟩
  ·unfold World.freeze;rw[if_neg (by decide)]
   congr 1
   apply Array.ext qG;intro i h1 h2;simp only[Array.getElem_modify]
   split
   ·rename_i e1;subst e1
    have:w.heap[b]'qaR=.cells cur e fz:=by
     have hlt:b<w.heap.size:=qaR;rw[qct hlt]at g2;exact Option.some.inj g2
    rw[this]
   ·rfl
  ·unfold noFz at g3⊢
   split
   ·exact .inr (Nat.le_refl _)
   ·rename_i h1;rcases g3 with g3|g3
    ·simp[g3]at h1
    ·exact .inr (by simp only;omega)
 have hsh:w.shape? b=some (e,cur.size):=by simp[World.shape?,g2]
 have hex:(execOp ev ⟨d,.convert t t x,ty,pos,af,g⟩).run P w=.ok (.value (.slice (some ⟨b,0,none⟩) n cap)) (w.freeze ⟨b,cur.size,none⟩ 1):=by
  simp[execOp,k1,convert,run_underlying hu,run_underlying he,markStringish,hsh]
 unfold Out;rw[hex,hw]
 have hlt:b<w.heap.size:=by
  rcases qc2 b w.heap.size with h'|h'
  ·exact h'
  ·rw[Array.getElem?_eq_none h']at g2;cases g2
 have q5:∀k,k≠b→(w.heap.modify b fun _=>Obj.cells cur e fz')[k]?=w.heap[k]?:=fun k hk=>by
  rw[Array.getElem?_modify,if_neg (Ne.symm hk)]
 have hbS:=k3 b rfl;have hgr:Grow S mm w S mm {w with heap:=w.heap.modify b fun _=>.cells cur e fz'}:=⟨fun _ h=>h,fun c hS=>q5 c (fun e=>hbS (e▸hS)),fun _ _ h=>h⟩
 obtain⟨f1,f2⟩:=zhw hm (w':={w with heap:=w.heap.modify b fun _=>.cells cur e fz'}) (ob':=.row e 1 n cs) (v:=.slice (some ⟨b,0,none⟩) n cap) ho (by rw[hx,k1]) rfl rfl rfl rfl qG q5
  ⟨us,PRepL.mono hgr.s hgr.w _ _ j1,j2,.inr ⟨b,cap,cur,fz',rfl,g1,by rw[Array.getElem?_modify,if_pos rfl,g2];rfl,hf,g4,g5,g6,g7⟩⟩
 exact⟨S,mm,by simp only[Rep];exact⟨by rw[hx,k1],_,_,_,rfl⟩,f1,f2⟩
end
theorem awp_join{P:Program}{w0:World}{A:Ctx1}{nt:Nat}{c d:Code}{Q:Exit→St→Prop}{st:St}(st1:St)(h:awp ⟨P,w0,ctx0 A,nt⟩ c (fun e st'=>e=.normal∧Re st' st1) st)(k:awp ⟨P,w0,ctx0 A,nt⟩ d Q st1):awp ⟨P,w0,ctx0 A,nt⟩ c (Thn (awp ⟨P,w0,ctx0 A,nt⟩ d Q) Q) st:=
 fun a w hs=>wp_mono (h a w hs) fun e a' w' ⟨st',⟨h1,h2⟩,h3⟩=>by
  subst h1;exact⟨st1,k,h2 _ _ _ _ _ h3⟩
theorem awp_joinK{P:Program}{w0:World}{A:Ctx1}{nt:Nat}{c:Code}{Q:Exit→St→Prop}{st:St}(st1:St)(h:awp ⟨P,w0,ctx0 A,nt⟩ c (fun e st'=>e=.normal∧Re st' st1) st)(k:∀st',Re st' st1→Q .normal st'):awp ⟨P,w0,ctx0 A,nt⟩ c Q st:=
 zgw h fun e st' ⟨h1,h2⟩=>by subst h1;exact k st' h2
noncomputable def eqL(xs ys:List Value):Bool:=@decide (xs=ys) (Classical.propDecidable _)
theorem zaY{xs ys:List Value}:eqL xs ys=true↔xs=ys:=by unfold eqL;simp
theorem zeg{xs ys:List Value}:eqL xs ys=false↔xs≠ys:=by unfold eqL;simp
theorem eqL_refl(xs:List Value):eqL xs xs=true:=zaY.2 rfl
def okF(P:Program)(f:TypeId→List Value→Bool):List Field→Nat→List Value→Bool
 | [],_,xs=>xs.isEmpty
 |fd::fs,off,xs=>(fd.name != "_")&&Nat.beq fd.offset off&&(match P.info? fd.type with
  |some i=>Nat.ble i.size xs.length&&f fd.type (xs.take i.size)&&okF P f fs (off+i.size) (xs.drop i.size)
  |none=>false)
def okS(P:Program):Nat→TypeId→List Value→Bool
 |0,_,_=>false
 |n+1,t,xs=>match P.underlying t with
  |some (.int k)=>match xs with| [.int k' _]=>decide (k=k')|_=>false
  |some .bool=>match xs with| [.bool _]=>true|_=>false
  |some .string=>match xs with| [.string _]=>true|_=>false
  |some (.struct fs)=> !P.stoodInHeld t&&okF P (okS P n) fs.toList 0 xs
  |_=>false
def mkV(P:Program)(t:TypeId)(xs:List Value):Value:=
 match P.underlying t with
 |some (.struct _)=>.agg xs.toArray
 |_=>xs.headD undef
theorem part_run{P:Program}{n:Nat}{t:TypeId}{i:TypeInfo}{X:Array Value}{off:Nat}{w:World}(hi:P.info? t=some i)(hl:i.size≤(X.toList.drop off).length)(h:okS P n t ((X.toList.drop off).take i.size)=true):
 (part t X off).run P w=.ok (mkV P t ((X.toList.drop off).take i.size)) w:=by
 have hsz:=zbr (P:=P) (t:=t) (n:=i.size) (by rw[hi];rfl) w
 have hext:(X.extract off (off+i.size))=((X.toList.drop off).take i.size).toArray:=by
  apply Array.ext';simp[Array.toList_extract,List.extract_eq_take_drop]
 cases n with
 |zero=>simp[okS]at h
 |succ n=>
  unfold okS at h;cases hu:P.underlying t with
  |none=>simp[hu]at h
  |some ds=>
   simp only[hu]at h
   have one:ds.isRow=false→((X.toList.drop off).take i.size).length=1→(∀fs,ds≠.struct fs)→(part t X off).run P w=.ok (mkV P t ((X.toList.drop off).take i.size)) w:=by
    intro h1 h2 h3;unfold part;rw[qbw,zh9 hu]
    have hx:X[off]?=some (((X.toList.drop off).take i.size).headD undef):=by
     generalize hq:(X.toList.drop off).take i.size=l at h2
     match l,h2 with
     | [x],_=>
      have h4:((X.toList.drop off).take i.size)[0]?=some x:=by rw[hq];rfl
      rw[qbR]at h4
      split at h4
      ·rw[qbF]at h4;simpa using h4
      ·cases h4
    have hmk:mkV P t ((X.toList.drop off).take i.size)=((X.toList.drop off).take i.size).headD undef:=by
     unfold mkV;rw[hu];cases ds<;>first|rfl|exact absurd rfl (h3 _)
    simp only[h1,qbr,qbJ,if_false,hx,qbx,hmk]
   cases ds<;>simp only[qbJ]at h
   case int k=>
    refine one rfl ?_ (fun fs e=>by cases e);generalize (X.toList.drop off).take i.size=l at h⊢
    split at h
    ·rfl
    ·cases h
   case bool=>
    refine one rfl ?_ (fun fs e=>by cases e);generalize (X.toList.drop off).take i.size=l at h⊢
    split at h
    ·rfl
    ·cases h
   case string=>
    refine one rfl ?_ (fun fs e=>by cases e);generalize (X.toList.drop off).take i.size=l at h⊢
    split at h
    ·rfl
    ·cases h
   case struct fs=>
    unfold part;rw[qbw,zh9 hu];simp only[TypeDesc.isRow,qbr,if_true,qbw,hsz,qbx,mkV,hu,hext]
theorem eqL_nil:eqL [] []=true:=eqL_refl []
theorem eqL_split(k:Nat)(xs ys:List Value):eqL xs ys=(eqL (xs.take k) (ys.take k)&&eqL (xs.drop k) (ys.drop k)):=by
 rw[qb1,qbB,zaY,zaY,zaY]
 constructor
 ·intro e;rw[e];exact⟨rfl,rfl⟩
 ·intro ⟨h1,h2⟩;rw[←qb9 k xs,h1,h2,qb9]
theorem zhe{P:Program}{n m:Nat}(ih:∀(t:TypeId) (xs ys:List Value) (w:World),okS P n t xs=true→okS P n t ys=true→(Op.equalIn m t (mkV P t xs) (mkV P t ys)).run P w=.ok (eqL xs ys) w)(X Y:Array Value):
 ∀(fs:List Field) (off:Nat) (w:World),okF P (okS P n) fs off (X.toList.drop off)=true→okF P (okS P n) fs off (Y.toList.drop off)=true→
  (Op.eqFields m X Y fs).run P w=.ok (eqL (X.toList.drop off) (Y.toList.drop off)) w
 | [],off,w,h1,h2=>by
  simp only[okF,List.isEmpty_iff]at h1 h2;rw[h1,h2,eqL_nil];rfl
 |f::fs,off,w,h1,h2=>by
  simp only[okF,qbB]at h1 h2;obtain⟨⟨a1,a2⟩,a3⟩:=h1;obtain⟨⟨_,_⟩,b3⟩:=h2;have hoff:f.offset=off:=qbn a2;cases hi:P.info? f.type with
  |none=>simp[hi]at a3
  |some i=>
   simp only[hi,qbB]at a3 b3;obtain⟨⟨c1,c2⟩,c3⟩:=a3;obtain⟨⟨d1,d2⟩,d3⟩:=b3;rw[qcE]at c3 d3;have e1:=part_run (w:=w) hi (qbk c1) c2;have e2:=part_run (w:=w) hi (qbk d1) d2;have e3:=ih f.type _ _ w c2 d2;have e4:=zhe ih X Y fs (off+i.size) w c3 d3;rw[eqL_split i.size,qcE,qcE]
   have hne:f.name≠ "_" :=by simpa using a1
   unfold Op.eqFields;rw[if_pos hne];simp only[qbw,hoff,e1,qbr,e2,e3];cases eqL (List.take i.size (List.drop off X.toList)) (List.take i.size (List.drop off Y.toList))with
   |true=>simpa using e4
   |false=>simp
theorem zfT{P:Program}:∀(n m:Nat),n≤m→∀(t:TypeId) (xs ys:List Value) (w:World),okS P n t xs=true→okS P n t ys=true→(Op.equalIn m t (mkV P t xs) (mkV P t ys)).run P w=.ok (eqL xs ys) w
 |0,m,_,t,xs,ys,w,h,_=>by simp[okS]at h
 |n+1,0,hm,t,xs,ys,w,h,k=>by omega
 |n+1,m+1,hm,t,xs,ys,w,h,k=>by
  unfold okS at h k;cases hu:P.underlying t with
  |none=>simp[hu]at h
  |some ds=>
   simp only[hu]at h k;cases ds<;>simp only[qbJ]at h k
   case int kk=>
    split at h
    ·rename_i k1 a
     split at k
     ·rename_i k2 b;have e1:kk=k1:=qB;have e2:kk=k2:=by simpa using k
      subst e1;subst e2;have hr:=run_equalIn_int (P:=P) w m t kk kk a b hu;simp only[mkV,hu,List.headD_cons,hr]
      congr 1
      rw[qb1,zaY];simp
     ·cases k
    ·cases h
   case bool=>
    split at h
    ·rename_i a
     split at k
     ·rename_i b;have hr:=run_equalIn_bool' (P:=P) w m t a b hu;simp only[mkV,hu,List.headD_cons,hr]
      congr 1
      rw[qb1,zaY];simp
     ·cases k
    ·cases h
   case string=>
    split at h
    ·rename_i a
     split at k
     ·rename_i b;have hr:=run_equalIn_string (P:=P) w m t a b hu;rw[zfC]at hr;simp only[mkV,hu,List.headD_cons,hr]
      congr 1
      rw[qb1,zaY];simp
     ·cases k
    ·cases h
   case struct fs=>
    simp only[qbB,qcR]at h k;have hfo:P.fieldsOf t=fs:=by unfold Program.fieldsOf;rw[hu]
    have hr:=run_equalIn_agg (P:=P) w m t xs.toArray ys.toArray (by rw[hfo];exact hu) h.1;simp only[mkV,hu,hr,hfo];have:=zhe (m:=m) (zfT n m qp) xs.toArray ys.toArray fs.toList 0 w (by simpa using h.2) (by simpa using k.2);simpa using this
def zcA:List AV→Option (List Value)
 | []=>some []
 | .p (.v x)::l=>(zcA l).map (x:: ·)
 |_::_=>none
theorem zd1{S:Nat→Prop}{m:Nat→Option Value}{w:World}:∀{cs:List AV} {xs us:List Value},zcA cs=some xs→RepL S m w cs us→us=xs
 | [],xs,us,h,hr=>by
  simp only[zcA,Option.some.injEq]at h;simp only[RepL]at hr;rw[hr,←h]
 |c::cs,xs,us,h,hr=>by
  simp only[RepL]at hr;obtain⟨u,us,rfl,h2,h3⟩:=hr;cases c with
  |p x=>
   cases x with
   |v x=>
    simp only[zcA]at h;cases hq:zcA cs with
    |none=>simp[hq]at h
    |some zs=>
     simp only[hq,qcx,Option.some.injEq]at h;rw[zbb h2,zd1 hq h3,h]
   |_=>simp[zcA]at h
  |_=>simp[zcA]at h
section
variable {P:Program}{d:Option Tmp}{ty:TypeId}{pos:String}{af:Array Edge}{g:Option (Nat×Bool)}
theorem zjh{op:BinOp}{t yt:TypeId}{x y:Operand}{cs ds:List AV}{xs ys:List Value}{fs:Array Field}(hop:op=.eql∨op=.neq)(hu:P.underlying t=some (.struct fs))(hx:zcA cs=some xs)(hy:zcA ds=some ys)(hg:P.eqGuardType P.depth t=false)(h1:okS P 20 t xs=true)(h2:okS P 20 t ys=true):
 AOp P ⟨d,.binOp op t x y yt,ty,pos,af,g⟩ [.agg cs,.agg ds] [] [] (.p (.v (.bool (if op=.eql then eqL xs ys else !eqL xs ys)))):=
 zaE fun S m w ev hr=>by
  obtain⟨k1,k2⟩:=zb9 (u:=ev x) (v:=ev y) hr;simp only[Rep]at k1 k2;obtain⟨us,a1,a2,_⟩:=k1;obtain⟨vs,b1,b2,_⟩:=k2;obtain rfl:=zd1 hx a2;obtain rfl:=zd1 hy b2;have hq:=zfT (P:=P) 20 10000 qp t us vs w h1 h2;simp only[mkV,hu]at hq;have hgd:=run_eqGuard_agg (P:=P) w op t x y us.toArray vs.toArray hg;refine⟨.bool (if op=.eql then eqL us vs else !eqL us vs),?_,za7 rfl⟩;rcases hop with rfl|rfl
  ·simp only[execOp,a1,b1,qbw,hgd,qbr,run_eql_struct,hq,qbx,if_true]
  ·simp only[execOp,a1,b1,qbw,hgd,qbr,run_neq_struct,hq,qbx,reduceCtorEq,if_false]
theorem zeH{t yt:TypeId}{x y:Operand}{cs ds:List AV}{xs ys:List Value}{fs:Array Field}(hu:P.underlying t=some (.struct fs))(hx:zcA cs=some xs)(hy:zcA ds=some ys)(hg:P.eqGuardType P.depth t=false)(h1:okS P 20 t xs=true)(h2:okS P 20 t ys=true):
 AOp P ⟨d,.binOp .eql t x y yt,ty,pos,af,g⟩ [.agg cs,.agg ds] [] [] (.p (.v (.bool (eqL xs ys)))):=zjh (.inl rfl) hu hx hy hg h1 h2
theorem zcW{t yt:TypeId}{x y:Operand}{cs ds:List AV}{xs ys:List Value}{fs:Array Field}(hu:P.underlying t=some (.struct fs))(hx:zcA cs=some xs)(hy:zcA ds=some ys)(hg:P.eqGuardType P.depth t=false)(h1:okS P 20 t xs=true)(h2:okS P 20 t ys=true):
 AOp P ⟨d,.binOp .neq t x y yt,ty,pos,af,g⟩ [.agg cs,.agg ds] [] [] (.p (.v (.bool (!eqL xs ys)))):=zjh (.inr rfl) hu hx hy hg h1 h2
end
def swp(a b x:Nat):Nat:=bif Nat.beq x a then b else bif Nat.beq x b then a else x
theorem swp_swp(a b x:Nat):swp a b (swp a b x)=x:=by
 unfold swp
 by_cases h1:x=a
 ·subst h1
  by_cases h2:b=x
  ·subst h2;simp
  ·simp[nbeq h2]
 ·by_cases h2:x=b
  ·subst h2;simp[nbeq h1]
  ·simp[nbeq h1,nbeq h2]
def perm:List (Nat×Nat)→Nat→Nat
 | [],x=>x
 |(k,o)::l,x=>swp (perm l k) o (perm l x)
def zjC:List (Nat×Nat)→Nat→Nat
 | [],x=>x
 |(k,o)::l,x=>zjC l (swp (perm l k) o x)
theorem ziT:∀(l:List (Nat×Nat)) (x:Nat),zjC l (perm l x)=x
 | [],x=>rfl
 |(k,o)::l,x=>by simp only[perm,zjC,swp_swp,ziT l x]
theorem ziS:∀(l:List (Nat×Nat)) (x:Nat),perm l (zjC l x)=x
 | [],x=>rfl
 |(k,o)::l,x=>by simp only[perm,zjC,ziS l,swp_swp]
def Slot.ren(ρ:Nat→Nat):Slot→Slot
 | .live ob=>.live (ob.ren ρ)
 |s=>s
mutual
theorem AV.ren_inv{ρ τ:Nat→Nat}(h:∀x,τ (ρ x)=x):∀x:AV,(x.ren ρ).ren τ=x
 | .p x=>rfl
 | .agg cs=>by simp only[AV.ren,AV.renL_inv h cs]
 | .tup cs=>by simp only[AV.ren,AV.renL_inv h cs]
 | .ptr cs=>rfl
 | .ref o off=>by simp only[AV.ren,h]
 | .row o=>by simp only[AV.ren,h]
 | .psl o off n size=>by simp only[AV.ren,h]
 | .pslc o n=>by simp only[AV.ren,h]
 | .fn f cs=>by simp only[AV.ren,AV.renL_inv h cs]
 | .mb b x=>by simp only[AV.ren,AV.ren_inv h x]
 | .sat sp=>rfl
 | .mp o=>by simp only[AV.ren,h]
 | .any=>rfl
theorem AV.renL_inv{ρ τ:Nat→Nat}(h:∀x,τ (ρ x)=x):∀x:List AV,AV.renL τ (AV.renL ρ x)=x
 | []=>rfl
 |c::cs=>by simp only[AV.renL,AV.ren_inv h c,AV.renL_inv h cs]
end
theorem AObj.ren_inv{ρ τ:Nat→Nat}(h:∀x,τ (ρ x)=x)(ob:AObj):(ob.ren ρ).ren τ=ob:=by
 cases ob with
 |box ty cs=>simp only[AObj.ren,AV.renL_inv h cs]
 |row e size n cs=>rfl
 |map es=>rfl
 |rowA e size n c cs=>simp only[AObj.ren,AV.renL_inv h cs]
theorem Slot.ren_inv{ρ τ:Nat→Nat}(h:∀x,τ (ρ x)=x)(s:Slot):(s.ren ρ).ren τ=s:=by
 cases s with
 |un=>rfl
 |dead=>rfl
 |live ob=>simp only[Slot.ren,AObj.ren_inv h ob]
theorem ORep.ren{B:Nat}{S:Nat→Prop}{w:World}{m m':Nat→Option Value}{ρ:Nat→Nat}(hm:∀o v,m o=some v→m' (ρ o)=some v){ob:AObj}{v:Value}(h:ORep B S m w ob v):ORep B S m' w (ob.ren ρ) v:=by
 cases ob with
 |box ty cs=>
  obtain⟨b,us,g1,g2,g3,g4,g5⟩:=h;exact⟨b,us,g1,g2,RepL.ren hm _ _ g3,g4,g5⟩
 |row e size n cs=>exact h
 |map es=>exact h
 |rowA e size n c cs=>
  obtain⟨us,g1,g2⟩:=h;exact⟨us,RepL.ren hm _ _ g1,g2⟩
theorem mem_ren{w0:World}{A S:Nat→Prop}{m:Nat→Option Value}{heap:Nat→Slot}{w:World}{ρ τ:Nat→Nat}(h1:∀x,τ (ρ x)=x)(h2:∀x,ρ (τ x)=x)(hm:Mem w0 A S m heap w):
 Mem w0 A S (fun k=>m (ρ k)) (fun k=>(heap (ρ k)).ren τ) w:=by
 have hr:∀o v,m o=some v→(fun k=>m (ρ k)) (τ o)=some v:=fun o v h=>by simp only[h2];exact h
 have key:∀{o:Nat} {ob:AObj},(heap (ρ o)).ren τ=.live ob→∃ob0,heap (ρ o)=.live ob0∧ob=ob0.ren τ:=by
  intro o ob ho;cases hh:heap (ρ o)with
  |un=>rw[hh]at ho;cases ho
  |dead=>rw[hh]at ho;cases ho
  |live ob0=>
   rw[hh]at ho;simp only[Slot.ren,Slot.live.injEq]at ho;exact⟨ob0,rfl,ho.symm⟩
 refine⟨hm.bel,hm.sA,hm.sW,fun o ho=>?_,fun o ob ho=>?_,fun o o' ob ob' v v' b ho ho' hv hv' hb hb'=>?_,hm.gl⟩
 ·refine hm.un _ ?_;cases hh:heap (ρ o)with
  |un=>rfl
  |dead=>simp only[hh,Slot.ren]at ho;cases ho
  |live ob0=>simp only[hh,Slot.ren]at ho;cases ho
 ·obtain⟨ob0,k1,rfl⟩:=key ho;obtain⟨v,k2,k3,k4⟩:=hm.live _ _ k1;exact⟨v,k2,ORep.ren (m':=fun k=>m (ρ k)) (ρ:=τ) hr k3,k4⟩
 ·obtain⟨ob0,k1,_⟩:=key ho;obtain⟨ob1,k2,_⟩:=key ho';have:=hm.inj _ _ _ _ _ _ _ k1 k2 hv hv' hb hb';have h3:=congrArg τ this
  rwa [h1,h1]at h3
def FnO(P:Program)(f:FuncId)(args:List AV)(rds wrs:List (Nat×Slot))(res:AV):Prop:=
 ∀(w0:World) (A S:Nat→Prop) (m:Nat→Option Value) (heap:Nat→Slot) (w:World) (us:List Value),Mem w0 A S m heap w→RepL S m w args us→(∀p∈rds,heap p.1=p.2)→
  Calls P f us.toArray w fun e w'=>∃v,e=.returned v∧∃S' m',Rep S' m' w' res v∧Mem w0 A S' m' (updL heap wrs) w'∧Grow S m w S' m' w'
theorem zhD{heap:Nat→Slot}:∀{l:List (Nat×Slot)},(∀p∈l,heap p.1=p.2)→updL heap l=heap
 | [],_=>rfl
 |(n,s)::l,h=>by
  funext o
  simp only[updL]
  by_cases e:o=n
  ·subst e;simp only[qcq,cond_true];exact(h (o,s) qG).symm
  ·simp only[nbeq e,cond_false];rw[zhD fun p hp=>h p (by simp[hp])]
structure FinO(P:Program)(rs:List ResultVar)(res:AV)(heap:Nat→Slot)(wrs:List (Nat×Slot))(e:Exit)(st:St):Prop where
 ends:e=.normal∨e=.ret
 ex:∃vals:List AV,ResIs P st rs vals∧oneA vals=res
 hp:Rds st wrs
 rest:∀o,(wrs.any fun p=>Nat.beq o p.1)=false→st.heap o=heap o
theorem zif{P:Program}{f:FuncId}{fn:Func}{c:Code}{args:List AV}{res:AV}{rds wrs:List (Nat×Slot)}(hf:P.funcs[f]?=some fn)(hb:fn.body=some c)(hn:args.length≤fn.ntmps)
 (h:∀w0 A heap,awp ⟨P,w0,A,fn.ntmps⟩ c (FinO P fn.results.toList res heap wrs) ⟨zgi (ziA 0 args),updL heap rds⟩):FnO P f args rds wrs res:=by
 intro w0 A S m heap w us hm hr hrd;refine calls_of_wp hf hb ?_;have hl:=hr.length;have hup:=zhD hrd
 let C:Ctx:=⟨A,fun S' m' w'=>Grow S m w S' m' w',fun S1 m1 w1 S2 m2 w2 g k=>k.trans g⟩
 refine wp_mono (h w0 C heap _ w ⟨⟨S,m,by rw[hup];exact hm,Grow.refl _ _ _,fun t=>?_⟩,?_,rfl⟩) ?_
 ·show Rep S _ w (zgi (ziA 0 args) t) _;exact jaa
 ·simp only[Array.size_append,qcF,Array.size_replicate];omega
 ·rintro e a w' ⟨st,h1,⟨⟨S',m',hm',hg,ht⟩,hsz,hd⟩⟩;obtain⟨vals,hall,hone⟩:=h1.ex;obtain⟨us',hrun,hrep⟩:=zeN hm' ht hall;have hres:=oneA_rep hrep;rw[hone]at hres
  have hheap:st.heap=updL heap wrs:=by
   funext o
   by_cases ho:o∈wrs.map Prod.fst
   ·have hs:=zhD h1.hp.all;rw[←hs];exact zjl ho
   ·rw[zcg ho];refine h1.rest o ?_;rw[List.any_eq_false];intro p hp;have:=nbeq fun e:o=p.1=>ho (qbv.2 ⟨p,hp,e.symm⟩)
    simp[this]
  rw[hheap]at hm';rcases h1.ends with rfl|rfl
  ·exact⟨hd,_,zfF hrun,_,rfl,S',m',hres,hm',hg⟩
  ·exact⟨hd,_,zfF hrun,_,rfl,S',m',hres,hm',hg⟩
def renW(ρ:Nat→Nat)(l:List (Nat×Slot)):List (Nat×Slot):=l.map fun p=>(ρ p.1,p.2.ren ρ)
theorem updL_ren{heap:Nat→Slot}{ρ τ:Nat→Nat}(h1:∀x,τ (ρ x)=x)(h2:∀x,ρ (τ x)=x):∀(wrs:List (Nat×Slot)) (o:Nat),(updL (fun k=>(heap (ρ k)).ren τ) wrs (τ o)).ren ρ=updL heap (renW ρ wrs) o
 | [],o=>by simp only[updL,renW,List.map_nil,h2,Slot.ren_inv h2]
 |(n,s)::l,o=>by
  simp only[updL,renW,qbu]
  by_cases e:τ o=n
  ·have e2:o=ρ n:=by rw[←e,h2]
   subst e2;simp only[h1,qcq,cond_true]
  ·have e2:o≠ρ n:=fun e2=>e (by rw[e2,h1])
   simp only[nbeq e,nbeq e2,cond_false];exact updL_ren h1 h2 l o
theorem FnO.renamed{P:Program}{f:FuncId}{args aSs:List AV}{rds wrs:List (Nat×Slot)}{res:AV}(h:FnO P f args rds wrs res)(l:List (Nat×Nat))(ha:AV.renL (zjC l) aSs=args):
 FnO P f aSs (renW (perm l) rds) (renW (perm l) wrs) (res.ren (perm l)):=by
 intro w0 A S m heap w us hm hr hrd;have h1:=ziT l;have h2:=ziS l;have hm1:=mem_ren h1 h2 hm
 have hr1:RepL S (fun k=>m (perm l k)) w args us:=by
  rw[←ha];exact RepL.ren (fun o v ho=>by simp only[h2];exact ho) _ _ hr
 refine(h w0 A S _ _ w us hm1 hr1 fun p hp=>?_).mono fun e w' ⟨v,he,S',m',k1,k2,k3⟩=>?_
 ·have:=hrd (perm l p.1,p.2.ren (perm l)) (qbv.2 ⟨p,hp,rfl⟩);simp only[this,Slot.ren_inv h1]
 ·refine⟨v,he,S',fun o=>m' (zjC l o),Rep.ren (fun o v ho=>by simp only[h1];exact ho) _ _ k1,?_,⟨k3.s,k3.w,fun o v ho=>?_⟩⟩
  ·have:=mem_ren h2 h1 k2
   have e:(fun k=>(updL (fun k=>(heap (perm l k)).ren (zjC l)) wrs (zjC l k)).ren (perm l))=updL heap (renW (perm l) wrs):=by
    funext o;exact updL_ren h1 h2 wrs o
   rwa [e]at this
  ·refine k3.m _ _ ?_;simp only[h2];exact ho
section
variable {P:Program}{d:Option Tmp}{ty:TypeId}{pos:String}{af:Array Edge}{g:Option (Nat×Bool)}{x:Operand}{args:Array Operand}{ts:Array TypeId}{f:FuncId}{fn:Func}
theorem a_callO{xs cs:List AV}{rds wrs:List (Nat×Slot)}{res:AV}(hf:P.funcs[f]?=some fn)(hb:fn.body.isNone=false)(hn:(fn.name== "runtime.NumGoroutine")=false)(hC:FnO P f (xs++cs) rds wrs res):
 AOp P ⟨d,.call {callee:=.value x,args:=args,argTypes:=ts},ty,pos,af,g⟩ (.fn f cs::xs) rds wrs res:=by
 intro w0 A S m heap w ev hm hR hrd;obtain⟨us,e1,e2⟩:=zjZ hR;unfold Out;rw[zhp hf hb hn e1];have e4:args.map ev++us.toArray=((args.map ev).toList++us).toArray:=qG;rw[e4];exact hC w0 A S m heap w _ hm e2 hrd
end
section
variable {P:Program}{ops:Array Oper}{K:List Foot→St→Prop}{l:List Oper}{fs:List Foot}{st:St}{d:Option Tmp}{ty:TypeId}{pos:String}{af:Array Edge}{gd:Option (Nat×Bool)}
end
section
variable {P:Program}{ops:Array Oper}{K:List Foot→St→Prop}{l:List Oper}{fs:List Foot}{st:St}{d:Option Tmp}{ty:TypeId}{pos:String}{af:Array Edge}{gd:Option (Nat×Bool)}
theorem zbp{x:Operand}{args:Array Operand}{ts:Array TypeId}{f:FuncId}{fn:Func}{aSs cs:List AV}{res:AV}{rds wrs:List (Nat×Slot)}(hC:FnO P f aSs rds wrs res)(hx:st.ev x=.fn f cs)(hxs:args.toList.map st.ev++cs=aSs)(hf:P.funcs[f]?=some fn)(hb:fn.body.isNone=false)(hn:(fn.name== "runtime.NumGoroutine")=false)
 (hrd:Rds st rds) (hg:zaJ ops ⟨d,.call {callee:=.value x,args:=args,argTypes:=ts},ty,pos,af,gd⟩ st=some true)
 (k:ARun P ops K l (fs++[(rds.map Prod.fst,wrs.map Prod.fst)]) ((st.upd wrs).put d res)):
 ARun P ops K (⟨d,.call {callee:=.value x,args:=args,argTypes:=ts},ty,pos,af,gd⟩::l) fs st:=by
 subst hxs;have hop:=a_callO (P:=P) (d:=d) (ty:=ty) (pos:=pos) (af:=af) (g:=gd) (x:=x) (args:=args) (ts:=ts) hf hb hn hC;refine zab hop ?_ hg hrd k;rw[←hx];simp[Op.operands,Call.operands]
end
def ReO(st st':St):Prop:=∀(w0:World) (A:Ctx) (nt:Nat) (a:Act) (w:World),Sim w0 A nt st a w→Sim w0 A nt st' a w
theorem za1{G:Env}{c:Code}{Q:Exit→St→Prop}{st st':St}(r:ReO st st')(h:awp G c Q st'):awp G c Q st:=fun a w hs=>h a w (r _ _ _ a w hs)
def LeTO(st:St):List (Nat×AV)→Prop
 | []=>True
 |(t,x)::l=>(st.tmps t=x)∧LeTO st l
theorem LeTO.mem{st:St}:∀{l:List (Nat×AV)},LeTO st l→∀p∈l,st.tmps p.1=p.2
 | [],_,p,hp=>by cases hp
 |(t,x)::l,h,p,hp=>by
  rcases qbA.1 hp with rfl|hp
  ·exact h.1
  ·exact LeTO.mem h.2 p hp
theorem zb6{st:St}(o:Nat):ReO st ⟨st.tmps,updL st.heap [(o,.dead)]⟩:=by
 rintro w0 A nt a w ⟨⟨S,m,hm,hj,ht⟩,hsz,hd⟩
 have key:∀o',updL st.heap [(o,.dead)] o'=st.heap o'∨updL st.heap [(o,.dead)] o'=.dead:=fun o'=>by
  by_cases e:o'=o
  ·subst e;exact .inr (by simp[updL])
  ·exact .inl (by simp only[updL,nbeq e,cond_false])
 refine⟨⟨S,m,⟨hm.bel,hm.sA,hm.sW,fun o' ho=>?_,fun o' ob ho=>?_,fun o1 o2 ob ob' v v' b ho ho'=>?_,hm.gl⟩,hj,ht⟩,hsz,hd⟩
 ·rcases key o' with h|h
  ·exact hm.un o' (h.symm.trans ho)
  ·have k:updL st.heap [(o,.dead)] o'=.un:=ho;rw[h]at k;cases k
 ·rcases key o' with h|h
  ·exact hm.live o' ob (h.symm.trans ho)
  ·have k:updL st.heap [(o,.dead)] o'=.live ob:=ho;rw[h]at k;cases k
 ·rcases key o1 with h|h
  ·rcases key o2 with h'|h'
   ·exact hm.inj o1 o2 ob ob' v v' b (h.symm.trans ho) (h'.symm.trans ho')
   ·have k:updL st.heap [(o,.dead)] o2=.live ob':=ho';rw[h']at k;cases k
  ·have k:updL st.heap [(o,.dead)] o1=.live ob:=ho;rw[h]at k;cases k
theorem jfZ{P:Program}{ops:Array Oper}{K:List Foot→St→Prop}{l:List Oper}{fs:List Foot}{st:St}{o:Oper}{xs:List AV}{r:AV}(h:AOp P o xs [] [] r)(k:ARun P ops K l (fs++[([],[])]) (st.put o.dst r))(hx:o.op.operands.toList.map st.ev=xs:=by exact rfl)(hg:zaJ ops o st=some true:=by exact rfl):ARun P ops K (o::l) fs st:=zaa h hx hg k
theorem jf0{P:Program}{ops:Array Oper}{K:List Foot→St→Prop}{l:List Oper}{fs:List Foot}{st:St}{o:Oper}{xs:List AV}{rds wrs:List (Nat×Slot)}{r:AV}(h:AOp P o xs rds wrs r)(k:ARun P ops K l (fs++[(rds.map Prod.fst,wrs.map Prod.fst)]) ((st.upd wrs).put o.dst r))(hx:o.op.operands.toList.map st.ev=xs:=by exact rfl)(hg:zaJ ops o st=some true:=by exact rfl)(hr:Rds st rds:=by exact⟨rfl,trivial⟩):ARun P ops K (o::l) fs st:=zab h hx hg hr k
abbrev qc(x:ByteArray):AV:=.p (.v (.string x))
abbrev qd(x:Int):AV:=.p (.v (.int .i64 x))
abbrev qe(x:Int):AV:=.p (.v (.int .u32 x))
abbrev qf(x:Bool):AV:=.p (.v (.bool x))
abbrev qg(x:ByteArray):PV:=.v (.string x)
abbrev qh(x:Int):PV:=.v (.int .i64 x)
abbrev qi(x:Int):PV:=.v (.int .u32 x)
abbrev qj(x:TypeId)(c:List AV):Slot:=.live (.box x c)
abbrev qk(x s n:Nat)(c:List PV):Slot:=.live (.row x s n c)
abbrev ql(x k:Nat)(c:List PV):AV:=.p (.sl x k c)
abbrev qm:AV:=.p (.v (.slice none 0 0))
theorem qo{α:Type}{l:List α}{i:Nat}(h:i<l.length):∃x,l[i]?=some x:=⟨l[i],List.getElem?_eq_getElem h⟩
end Go.Proofs.YtdiljgkijgiboaaGreatDoor
