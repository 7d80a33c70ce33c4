/- Used. -/
import Derived.Test.YtdiljgkijgiboaaGreatDoorSShelf
import Derived.Lib.BitFns
import Derived.WalkLawsBesides
set_option linter.all false
set_option maxRecDepth 100000
namespace Go.Proofs.YtdiljgkijgiboaaGreatDoor
abbrev Key:=List Bool
abbrev Own:=ByteArray
abbrev noOwn:ByteArray:=⟨#[]⟩
def zby(k:Key)(i:Nat):Bool:=k.getD i false
theorem pre_antisymm{a b:Key}(h:a<+:b)(k:b<+:a):a=b:=h.eq_of_length (Nat.le_antisymm h.length_le k.length_le)
theorem pre_total{a b c:Key}(h:a<+:c)(k:b<+:c):a<+:b∨b<+:a:=List.prefix_or_prefix_of_prefix h k
theorem zb7{p k:Key}(h:p<+:k)(hne:k≠p):p++[zby k p.length]<+:k:=by
 obtain⟨t,rfl⟩:=h;cases t with
 |nil=>simp at hne
 |cons b t=>
  refine⟨t,?_⟩;simp[zby]
theorem zcb{p k:Key}{b:Bool}(h:p++[b]<+:k):zby k p.length=b:=by
 obtain⟨t,rfl⟩:=h;simp[zby]
theorem zet{p k:Key}{b:Bool}(h:p++[b]<+:k):p<+:k:=List.IsPrefix.trans (List.prefix_append _ _) h
theorem zcS{p k:Key}{b:Bool}(h:p++[b]<+:k):k≠p:=fun e=>by
 have:=h.length_le;rw[e]at this;simp only[qbm,qcy]at this;omega
theorem pre_part{p z a b:Key}(ha:p++[false]<+:a)(hb:p++[true]<+:b)(h1:z<+:a)(h2:z<+:b):z<+:p:=by
 rcases pre_total h1 ha with h|h
 ·rcases pre_total h2 hb with k|k
  ·by_cases hl:z.length≤p.length
   ·have:=List.prefix_of_prefix_length_le h1 (zet ha) hl;exact this
   ·have e1:z=p++[false]:=h.eq_of_length (by have:=h.length_le;simp at this⊢;omega);have e2:z=p++[true]:=k.eq_of_length (by have:=k.length_le;simp at this⊢;omega);rw[e1]at e2;simp at e2
  ·have:=zcb (k.trans h1);rw[zcb ha]at this;cases this
 ·have:=zcb (h.trans h2);rw[zcb hb]at this;cases this
def lcpL:Key→Key→Key
 |a::l,b::r=>if a=b then a::lcpL l r else []
 |_,_=>[]
theorem zdz:∀l r:Key,lcpL l r<+:l
 | [],r=>by cases r<;>simp[lcpL]
 |a::l,[]=>by simp[lcpL]
 |a::l,b::r=>by
  simp only[lcpL]
  split
  ·exact qcO.2 ⟨rfl,zdz l r⟩
  ·exact List.nil_prefix
theorem zdq:∀l r:Key,lcpL l r<+:r
 | [],r=>by cases r<;>simp[lcpL]
 |a::l,[]=>by simp[lcpL]
 |a::l,b::r=>by
  simp only[lcpL]
  split
  ·rename_i h;subst h;exact qcO.2 ⟨rfl,zdq l r⟩
  ·exact List.nil_prefix
theorem zfl:∀{p l r:Key},p<+:l→p<+:r→p<+:lcpL l r
 | [],l,r,_,_=>List.nil_prefix
 |x::p,[],r,h,_=>by have:=h.length_le;simp at this
 |x::p,a::l,[],_,h=>by have:=h.length_le;simp at this
 |x::p,a::l,b::r,h,k=>by
  obtain⟨rfl,h'⟩:=qcO.1 h;obtain⟨rfl,k'⟩:=qcO.1 k;simp only[lcpL,if_true];exact qcO.2 ⟨rfl,zfl h' k'⟩
def zh7(p:Key)(l:List Key):Key:=l.foldl lcpL p
theorem zgP:∀(l:List Key) (p:Key),zh7 p l<+:p
 | [],p=>List.prefix_refl _
 |q::l,p=>(zgP l (lcpL p q)).trans (zdz p q)
theorem joinK_mem:∀(l:List Key) (p:Key),∀q∈l,zh7 p l<+:q
 | [],p,q,h=>by cases h
 |x::l,p,q,h=>by
  rcases qbA.1 h with rfl|h
  ·exact(zgP l (lcpL p q)).trans (zdq p q)
  ·exact joinK_mem l _ q h
theorem joinK_max:∀{l:List Key} {p x:Key},x<+:p→(∀q∈l,x<+:q)→x<+:zh7 p l
 | [],p,x,h,_=>h
 |q::l,p,x,h,k=>joinK_max (l:=l) (zfl h (k q qG)) fun r hr=>k r (by simp[hr])
def za0:List (Key×Own)→Key
 | []=>[]
 |x::l=>zh7 x.1 ((x::l).map Prod.fst)
theorem zdA{l:List (Key×Own)}:∀x∈l,za0 l<+:x.1:=by
 intro x hx;cases l with
 |nil=>cases hx
 |cons y l=>exact joinK_mem _ _ _ (qbv.2 ⟨x,hx,rfl⟩)
theorem zex{l:List (Key×Own)}{z:Key}(hne:l≠[])(h:∀x∈l,z<+:x.1):z<+:za0 l:=by
 cases l with
 |nil=>exact absurd rfl hne
 |cons y l=>
  refine joinK_max (h y qG) fun q hq=>?_
  obtain⟨x,hx,rfl⟩:=qbv.1 hq;exact h x hx
inductive TR where
 |nil
 |nd (p:Key) (o:Own) (l r:TR)
def TR.under(q:Key):TR→Prop
 | .nil=>True
 | .nd p _ _ _=>q<+:p
def TR.valid:TR→Prop
 | .nil=>True
 | .nd p o l r=>l.valid∧r.valid∧l.under (p++[false])∧r.under (p++[true])∧(o=noOwn→l≠.nil∧r≠.nil)
def ownP(p:Key)(o:Own):List (Key×Own):=if o=noOwn then []else [(p,o)]
def TR.pairs:TR→List (Key×Own)
 | .nil=>[]
 | .nd p o l r=>ownP p o++(l.pairs++r.pairs)
abbrev Nd:=Key×Own×Nat
def TR.nodes:TR→List Nd
 | .nil=>[]
 | .nd p o l r=>(p,o,1+(l.nodes++r.nodes).length)::(l.nodes++r.nodes)
theorem zfh{p:Key}{o:Own}{x:Key×Own}(h:x∈ownP p o):x=(p,o)∧o≠noOwn:=by
 unfold ownP at h
 split at h
 ·cases h
 ·exact⟨by simpa using h,qah⟩
theorem TR.pairs_own:∀{t:TR},∀x∈t.pairs,x.2≠noOwn
 | .nil,x,h=>by cases h
 | .nd p o l r,x,h=>by
  simp only[TR.pairs,qbD]at h;rcases h with h|h|h
  ·obtain⟨rfl,h'⟩:=zfh h;exact h'
  ·exact TR.pairs_own x h
  ·exact TR.pairs_own x h
theorem TR.pairs_below:∀{t:TR} {q:Key},t.valid→t.under q→∀x∈t.pairs,q<+:x.1
 | .nil,q,_,_,x,h=>by cases h
 | .nd p o l r,q,hv,hb,x,h=>by
  obtain⟨h1,h2,h3,h4,h5⟩:=hv;simp only[TR.pairs,qbD]at h;rcases h with h|h|h
  ·obtain⟨rfl,_⟩:=zfh h;exact hb
  ·exact List.IsPrefix.trans hb (zet (TR.pairs_below h1 h3 x h))
  ·exact List.IsPrefix.trans hb (zet (TR.pairs_below h2 h4 x h))
theorem TR.pairs_ne:∀{t:TR},t.valid→t≠.nil→∃x,x∈t.pairs
 | .nil,_,h=>absurd rfl h
 | .nd p o l r,hv,_=>by
  obtain⟨h1,h2,h3,h4,h5⟩:=hv
  by_cases ho:o=noOwn
  ·obtain⟨x,hx⟩:=TR.pairs_ne h1 (h5 ho).1;exact⟨x,by simp[TR.pairs,hx]⟩
  ·exact⟨(p,o),by simp[TR.pairs,ownP,ho]⟩
theorem TR.root_max{p:Key}{o:Own}{l r:TR}{z:Key}(hv:(TR.nd p o l r).valid)(h:∀x∈(TR.nd p o l r).pairs,z<+:x.1):z<+:p:=by
 obtain⟨h1,h2,h3,h4,h5⟩:=hv
 by_cases ho:o=noOwn
 ·obtain⟨x,hx⟩:=TR.pairs_ne h1 (h5 ho).1;obtain⟨y,hy⟩:=TR.pairs_ne h2 (h5 ho).2;exact pre_part (TR.pairs_below h1 h3 x hx) (TR.pairs_below h2 h4 y hy) (h x qaz) (h y (by simp[TR.pairs,hy]))
 ·exact h (p,o) (by simp[TR.pairs,ownP,ho])
theorem TR.root_pre{p:Key}{o:Own}{l r:TR}(hv:(TR.nd p o l r).valid):∀x∈(TR.nd p o l r).pairs,p<+:x.1:=TR.pairs_below hv (List.prefix_refl _)
def zdW(top:Key)(l:List (Key×Own)):Own:=l.foldl (fun o x=>if x.1=top then x.2 else o) noOwn
theorem zgG{top:Key}{o:Own}:∀(l:List (Key×Own)) (a:Own),(∀x∈l,x.1=top→x.2=o)→(a=o∨∃x∈l,x.1=top)→l.foldl (fun o x=>if x.1=top then x.2 else o) a=o
 | [],a,_,h=>by
  rcases h with h|⟨x,hx,_⟩
  ·exact h
  ·cases hx
 |y::l,a,h,k=>by
  rw[List.foldl_cons];refine zgG l _ (fun x hx=>h x (by simp[hx])) ?_
  by_cases hy:y.1=top
  ·rw[if_pos hy];exact .inl (h y qG hy)
  ·rw[if_neg hy];rcases k with k|⟨x,hx,hxt⟩
   ·exact .inl k
   ·rcases qbA.1 hx with rfl|hx
    ·exact absurd hxt hy
    ·exact .inr ⟨x,hx,hxt⟩
def zaR(top:Key)(b:Bool)(l:List (Key×Own)):List (Key×Own):=l.filter fun x=> !decide (x.1=top)&&(zby x.1 top.length==b)
theorem zc0{top:Key}{b:Bool}{l:List (Key×Own)}{x:Key×Own}:x∈zaR top b l↔x∈l∧x.1≠top∧zby x.1 top.length=b:=by
 simp[zaR,qce]
def zbF:Nat→List (Key×Own)→List Nd
 |_,[]=>[]
 |0,_::_=>[]
 |n+1,x::l=>
  (za0 (x::l),zdW (za0 (x::l)) (x::l),1+(zbF n (zaR (za0 (x::l)) false (x::l))++zbF n (zaR (za0 (x::l)) true (x::l))).length)::
   (zbF n (zaR (za0 (x::l)) false (x::l))++zbF n (zaR (za0 (x::l)) true (x::l)))
theorem TR.join_root{p:Key}{o:Own}{l r:TR}(hv:(TR.nd p o l r).valid){L:List (Key×Own)}(hp:L.Perm (TR.nd p o l r).pairs):za0 L=p:=by
 have hne:L≠[]:=by
  obtain⟨x,hx⟩:=TR.pairs_ne hv qG;intro e;subst e;exact absurd (hp.mem_iff.2 hx) qG
 refine pre_antisymm (TR.root_max hv fun x hx=>zdA x (hp.mem_iff.2 hx)) (zex hne fun x hx=>TR.root_pre hv x (hp.mem_iff.1 hx))
theorem TR.own_root{p:Key}{o:Own}{l r:TR}(hv:(TR.nd p o l r).valid){L:List (Key×Own)}(hp:L.Perm (TR.nd p o l r).pairs):zdW p L=o:=by
 obtain⟨h1,h2,h3,h4,h5⟩:=hv
 have key:∀x∈L,x.1=p→x.2=o:=fun x hx e=>by
  have:=hp.mem_iff.1 hx;simp only[TR.pairs,qbD]at this;rcases this with h|h|h
  ·obtain⟨rfl,_⟩:=zfh h;rfl
  ·exact absurd e (zcS (TR.pairs_below h1 h3 x h))
  ·exact absurd e (zcS (TR.pairs_below h2 h4 x h))
 by_cases ho:o=noOwn
 ·exact zgG L _ key (.inl ho.symm)
 ·exact zgG L _ key (.inr ⟨(p,o),hp.mem_iff.2 (by simp[TR.pairs,ownP,ho]),rfl⟩)
theorem sideL_pairs{p:Key}{o:Own}{l r:TR}(hv:(TR.nd p o l r).valid):zaR p false (TR.nd p o l r).pairs=l.pairs∧zaR p true (TR.nd p o l r).pairs=r.pairs:=by
 obtain⟨h1,h2,h3,h4,h5⟩:=hv
 have e0:∀b,zaR p b (ownP p o)=[]:=fun b=>by
  unfold zaR ownP
  split<;>simp
 have full:∀(t:TR) (b:Bool),t.valid→t.under (p++[b])→zaR p b t.pairs=t.pairs:=fun t b hv hb=>by
  refine qcV.2 fun x hx=>?_
  have:=TR.pairs_below hv hb x hx;simp[zcS this,zcb this]
 have none:∀(t:TR) (b:Bool),t.valid→t.under (p++[b])→zaR p (!b) t.pairs=[]:=fun t b hv hb=>by
  refine List.filter_eq_nil_iff.2 fun x hx=>?_
  have:=TR.pairs_below hv hb x hx;simp[zcb this]
 have app:∀b (x y:List (Key×Own)),zaR p b (x++y)=zaR p b x++zaR p b y:=fun b x y=>qc1 ..
 constructor
 ·rw[TR.pairs,app,app,e0,full l false h1 h3,show zaR p false r.pairs=[]from none r true h2 h4];simp
 ·rw[TR.pairs,app,app,e0,full r true h2 h4,show zaR p true l.pairs=[]from none l false h1 h3];simp
theorem zfQ:∀{t:TR} {L:List (Key×Own)} {n:Nat},t.valid→L.Perm t.pairs→L.length≤n→zbF n L=t.nodes
 | .nil,L,n,_,hp,_=>by
  obtain rfl:L=[]:=List.Perm.eq_nil hp;cases n<;>rfl
 | .nd p o l r,L,n,hv,hp,hn=>by
  have hj:=TR.join_root hv hp;have ho:=TR.own_root hv hp;have hs:=sideL_pairs hv;have p1:(zaR p false L).Perm l.pairs:=by rw[←hs.1];exact hp.filter _
  have p2:(zaR p true L).Perm r.pairs:=by rw[←hs.2];exact hp.filter _
  have hlen:=hp.length_eq
  match L,n,hn with
  | [],_,_=>
   obtain⟨x,hx⟩:=TR.pairs_ne hv qG;exact absurd (hp.mem_iff.2 hx) qG
  |x::L,0,hn=>simp at hn
  |x::L,n+1,hn=>
   have hlp:=p1.length_eq;have hrp:=p2.length_eq
   have hlt:l.pairs.length+r.pairs.length≤n+1:=by
    simp only[TR.pairs,qbm]at hlen;simp only[qbE]at hn hlen;omega
   have hl1:(zaR p false (x::L)).length≤n∧(zaR p true (x::L)).length≤n:=by
    rw[hlp,hrp];obtain⟨h1,h2,h3,h4,h5⟩:=hv
    by_cases hoo:o=noOwn
    ·obtain⟨y,hy⟩:=TR.pairs_ne h1 (h5 hoo).1;obtain⟨z,hz⟩:=TR.pairs_ne h2 (h5 hoo).2;have:=List.length_pos_of_mem hy;have:=List.length_pos_of_mem hz;omega
    ·have:(ownP p o).length=1:=by unfold ownP;rw[if_neg hoo];rfl
     simp only[TR.pairs,qbm]at hlen;simp only[qbE]at hn hlen;omega
   rw[zbF,hj,ho,zfQ hv.1 p1 hl1.1,zfQ hv.2.1 p2 hl1.2];rfl
theorem fst_inj:∀{l:List (Key×Own)},(l.map Prod.fst).Nodup→∀a∈l,∀b∈l,a.1=b.1→a=b
 | [],_,a,ha,_,_,_=>by cases ha
 |x::l,h,a,ha,b,hb,e=>by
  rw[qbu,qc4]at h;rcases qbA.1 ha with ha|ha<;>rcases qbA.1 hb with hb|hb
  ·rw[ha,hb]
  ·exact absurd (qbv.2 ⟨b,hb,by rw[←e,ha]⟩) h.1
  ·exact absurd (qbv.2 ⟨a,ha,by rw[e,hb]⟩) h.1
  ·exact fst_inj h.2 a ha b hb e
theorem fst_nodup:∀{l:List (Key×Own)},(l.map Prod.fst).Nodup→l.Nodup
 | [],_=>List.nodup_nil
 |x::l,h=>by
  rw[qbu,qc4]at h;exact qc4.2 ⟨fun hx=>h.1 (qbv.2 ⟨x,hx,rfl⟩),fst_nodup h.2⟩
theorem tree_of:∀(n:Nat) (L:List (Key×Own)),L.length≤n→(L.map Prod.fst).Nodup→(∀x∈L,x.2≠noOwn)→∃t:TR,t.valid∧L.Perm t.pairs
 |_,[],_,_,_=>⟨.nil,trivial,List.Perm.refl _⟩
 |0,_::_,h,_,_=>by simp at h
 |n+1,y::L,hn,hd,ho=>by
  obtain⟨M,hM⟩:∃M,M=y::L:=⟨_,rfl⟩;rw[←hM]at hn hd ho⊢;have hMne:M≠[]:=by rw[hM];simp
  obtain⟨top,htop⟩:∃top,top=za0 M:=⟨_,rfl⟩;have hpre:∀x∈M,top<+:x.1:=fun x hx=>by rw[htop];exact zdA x hx
  have hside:∀b,∀x∈zaR top b M,top++[b]<+:x.1:=fun b x hx=>by
   obtain⟨h1,h2,h3⟩:=zc0.1 hx;rw[←h3];exact zb7 (hpre x h1) h2
  have hlen:(M.filter fun x=>decide (x.1=top)).length+((zaR top false M).length+(zaR top true M).length)=M.length:=by
   have h1:=(qcW (fun x:Key×Own=>decide (x.1=top)) M).length_eq;have h2:=(qcW (fun x:Key×Own=>zby x.1 top.length==false) (M.filter fun x=> !decide (x.1=top))).length_eq;rw[qc0,qc0]at h2;rw[qbm]at h1 h2;have e1:(M.filter fun x=>(zby x.1 top.length==false)&& !decide (x.1=top))=zaR top false M:=qaX
   have e2:(M.filter fun x=>(!(zby x.1 top.length==false))&& !decide (x.1=top))=zaR top true M:=by
    unfold zaR;congr 1;funext x;rw[Bool.and_comm];cases zby x.1 top.length<;>rfl
   rw[e1,e2]at h2;omega
  have hlt:∀b,(zaR top b M).length<M.length:=by
   intro b;have hle:∀b,(zaR top b M).length≤M.length:=fun b=>List.length_filter_le _ _
   rcases qc2 (zaR top b M).length M.length with h|h
   ·exact h
   ·exfalso
    have e:zaR top b M=M:=by
     have:=qcU (p:=fun x:Key×Own=> !decide (x.1=top)&&(zby x.1 top.length==b)) (l:=M);exact this.eq_of_length (Nat.le_antisymm (hle b) h)
    have hm:top++[b]<+:top:=by
     conv=>rhs;rw[htop]
     exact zex hMne fun x hx=>hside b x (by rw[e];exact hx)
    have:=hm.length_le;simp only[qbm,qcy]at this;omega
  have hsub:∀b,((zaR top b M).map Prod.fst).Nodup:=fun b=>hd.sublist (qcU.map _)
  obtain⟨tl,v1,p1⟩:=tree_of n (zaR top false M) (by have:=hlt false;omega) (hsub false) fun x hx=>ho x (zc0.1 hx).1
  obtain⟨tr,v2,p2⟩:=tree_of n (zaR top true M) (by have:=hlt true;omega) (hsub true) fun x hx=>ho x (zc0.1 hx).1
  have hbel:∀(t:TR) (b:Bool),t.valid→(zaR top b M).Perm t.pairs→t.under (top++[b]):=fun t b hv hp=>by
   cases t with
   |nil=>trivial
   |nd q o l r=>exact TR.root_max hv fun x hx=>hside b x (hp.mem_iff.2 hx)
  have hnil:∀(t:TR) (b:Bool),t.valid→(zaR top b M).Perm t.pairs→t=.nil→zaR top b M=[]:=fun t b hv hp e=>by
   subst e;exact List.Perm.eq_nil hp
  obtain⟨o,hoo,hperm⟩:∃o:Own,(o=noOwn→∀x∈M,x.1≠top)∧(M.filter fun x:Key×Own=>decide (x.1=top)).Perm (ownP top o):=by
   by_cases hx:∃x∈M,x.1=top
   ·obtain⟨x,hxM,hxt⟩:=hx;refine⟨x.2,fun h=>absurd h (ho x hxM),?_⟩
    have e:(M.filter fun x=>decide (x.1=top))=[x]:=by
     have hall:∀z∈M.filter (fun x=>decide (x.1=top)),z=x:=fun z hz=>by
      obtain⟨h1,h2⟩:=qce.1 hz;have h2:z.1=top:=by simpa using h2
      exact fst_inj hd z h1 x hxM (by rw[h2,hxt])
     have hnd:(M.filter fun x=>decide (x.1=top)).Nodup:=(fst_nodup hd).sublist qcU
     match hq:M.filter (fun x=>decide (x.1=top))with
     | []=>
      have hm:x∈M.filter (fun x=>decide (x.1=top)):=qce.2 ⟨hxM,by simpa using hxt⟩;rw[hq]at hm;cases hm
     | [a]=>
      have ea:=hall a (by rw[hq];simp);rw[hq,ea]
     |a::b::c=>
      rw[hq]at hnd hall;have ea:=hall a qG;have eb:=hall b qG;subst ea;subst eb;simp at hnd
    rw[e];obtain⟨x1,x2⟩:=x;simp only at hxt;subst hxt;unfold ownP;rw[if_neg (ho _ hxM)]
   ·refine⟨noOwn,fun _ x hxM e=>hx ⟨x,hxM,e⟩,?_⟩;have e:(M.filter fun x=>decide (x.1=top))=[]:=List.filter_eq_nil_iff.2 fun x hxM=>by simp;intro e;exact hx ⟨x,hxM,e⟩
    rw[e];unfold ownP;rw[if_pos rfl]
  refine⟨.nd top o tl tr,⟨v1,v2,hbel tl false v1 p1,hbel tr true v2 p2,fun h0=>?_⟩,?_⟩
  ·have hno:=hoo h0
   have hall:∀b,zaR top b M=[]→∀x∈M,top++[!b]<+:x.1:=fun b hb x hx=>by
    have h1:=zb7 (hpre x hx) (hno x hx)
    have h2:zby x.1 top.length= !b:=by
     cases hq:zby x.1 top.length<;>cases b<;>try rfl
     ·have:x∈zaR top false M:=zc0.2 ⟨hx,hno x hx,hq⟩;rw[hb]at this;cases this
     ·have:x∈zaR top true M:=zc0.2 ⟨hx,hno x hx,hq⟩;rw[hb]at this;cases this
    rw[h2]at h1;exact h1
   have hcon:∀b,zaR top b M≠[]:=fun b hb=>by
    have hm:top++[!b]<+:top:=by
     conv=>rhs;rw[htop]
     exact zex hMne (hall b hb)
    have:=hm.length_le;simp only[qbm,qcy]at this;omega
   exact⟨fun e=>hcon false (hnil tl false v1 p1 e),fun e=>hcon true (hnil tr true v2 p2 e)⟩
  ·have hsplit:M.Perm ((M.filter fun x=>decide (x.1=top))++(zaR top false M++zaR top true M)):=by
    refine(qcW (fun x=>decide (x.1=top)) M).symm.trans ?_;refine List.Perm.append_left _ ?_;have e2:=(qcW (fun x=>zby x.1 top.length==false) (M.filter fun x=> !decide (x.1=top))).symm;rw[qc0,qc0]at e2;have e3:(M.filter fun x=>(zby x.1 top.length==false)&& !decide (x.1=top))=zaR top false M:=qaX
    have e4:(M.filter fun x=>(!(zby x.1 top.length==false))&& !decide (x.1=top))=zaR top true M:=by
     unfold zaR;congr 1;funext x;rw[Bool.and_comm];cases zby x.1 top.length<;>rfl
    rw[e3,e4]at e2;exact e2
   exact hsplit.trans (hperm.append (p1.append p2))
def TR.put:TR→Key→Own→TR
 | .nil,n,o=>.nd n o .nil .nil
 | .nd p q l r,n,o=>
  if p=n then .nd n o l r
  else if p<+:n then(if zby n p.length=true then .nd p q l (r.put n o)else .nd p q (l.put n o) r)
  else if n<+:p then(if zby p n.length=true then .nd n o .nil (.nd p q l r)else .nd n o (.nd p q l r) .nil)
  else(if zby n (lcpL p n).length=true then .nd (lcpL p n) noOwn (.nd p q l r) (.nd n o .nil .nil)else .nd (lcpL p n) noOwn (.nd n o .nil .nil) (.nd p q l r))
theorem TR.put_ne:∀(t:TR) (n:Key) (o:Own),t.put n o≠.nil
 | .nil,n,o=>by simp[TR.put]
 | .nd p q l r,n,o=>by
  rw[TR.put]
  split
  ·simp
  ·split
   ·split<;>simp
   ·split
    ·split<;>simp
    ·split<;>simp
theorem fork_bits{p n:Key}(h1:¬p<+:n)(h2:¬n<+:p):lcpL p n++[zby p (lcpL p n).length]<+:p∧lcpL p n++[zby n (lcpL p n).length]<+:n∧zby p (lcpL p n).length= !zby n (lcpL p n).length:=by
 have a1:=zb7 (zdz p n) (fun e=>h1 (by have h:=zdq p n;rw[←e]at h;exact h));have a2:=zb7 (zdq p n) (fun e=>h2 (by have h:=zdz p n;rw[←e]at h;exact h));refine⟨a1,a2,?_⟩;cases hb:zby p (lcpL p n).length<;>cases hc:zby n (lcpL p n).length<;>try rfl
 all_goals
  exfalso
  rw[hb]at a1;rw[hc]at a2;have:=(zfl a1 a2).length_le;simp only[qbm,qcy]at this;omega
theorem TR.put_valid:∀{t:TR} {n:Key} {o:Own},t.valid→o≠noOwn→(t.put n o).valid∧∀q,t.under q→q<+:n→(t.put n o).under q
 | .nil,n,o,_,ho=>⟨⟨trivial,trivial,trivial,trivial,fun e=>absurd e ho⟩,fun q _ h=>h⟩
 | .nd p q l r,n,o,hv,ho=>by
  have hv':=hv;obtain⟨h1,h2,h3,h4,h5⟩:=hv;rw[TR.put]
  split
  ·rename_i e;subst e;exact⟨⟨h1,h2,h3,h4,fun e=>absurd e ho⟩,fun z hz _=>hz⟩
  ·rename_i hne
   split
   ·rename_i hpn;have hx:=zb7 hpn (fun e=>hne e.symm)
    split
    ·rename_i hb;rw[hb]at hx;obtain⟨k1,k2⟩:=TR.put_valid (n:=n) h2 ho;exact⟨⟨h1,k1,h3,k2 _ h4 hx,fun e=>⟨(h5 e).1,TR.put_ne _ _ _⟩⟩,fun z hz _=>hz⟩
    ·rename_i hb;have hb':zby n p.length=false:=qa9;rw[hb']at hx;obtain⟨k1,k2⟩:=TR.put_valid (n:=n) h1 ho;exact⟨⟨k1,h2,k2 _ h3 hx,h4,fun e=>⟨TR.put_ne _ _ _,(h5 e).2⟩⟩,fun z hz _=>hz⟩
   ·rename_i hpn
    split
    ·rename_i hnp;have hx:=zb7 hnp (fun e=>hne e)
     split
     ·rename_i hb;rw[hb]at hx;exact⟨⟨trivial,hv',trivial,hx,fun e=>absurd e ho⟩,fun z hz hzn=>hzn⟩
     ·rename_i hb;have hb':zby p n.length=false:=qa9;rw[hb']at hx;exact⟨⟨hv',trivial,hx,trivial,fun e=>absurd e ho⟩,fun z hz hzn=>hzn⟩
    ·rename_i hnp;obtain⟨f1,f2,f3⟩:=fork_bits hpn hnp;have leaf:(TR.nd n o .nil .nil).valid:=⟨trivial,trivial,trivial,trivial,fun e=>absurd e ho⟩
     split
     ·rename_i hb;rw[hb]at f2 f3;rw[f3]at f1;exact⟨⟨hv',leaf,f1,f2,fun _=>⟨qG,qG⟩⟩,fun z hz hzn=>zfl hz hzn⟩
     ·rename_i hb;have hb':zby n (lcpL p n).length=false:=qa9;rw[hb']at f2 f3;rw[f3]at f1;exact⟨⟨leaf,hv',f2,f1,fun _=>⟨qG,qG⟩⟩,fun z hz hzn=>zfl hz hzn⟩
def notK(n:Key)(l:List (Key×Own)):List (Key×Own):=l.filter fun x=> !decide (x.1=n)
theorem zfi(n:Key)(a b:List (Key×Own)):notK n (a++b)=notK n a++notK n b:=qc1 ..
theorem zeu{n:Key}{l:List (Key×Own)}(h:∀x∈l,x.1≠n):notK n l=l:=qcV.2 fun x hx=>by simp[h x hx]
theorem zdx{p:Key}{o:Own}(h:o≠noOwn):ownP p o=[(p,o)]:=by unfold ownP;rw[if_neg h]
theorem zjF(p:Key):ownP p noOwn=[]:=by unfold ownP;rw[if_pos rfl]
theorem TR.put_pairs:∀{t:TR} {n:Key} {o:Own},t.valid→o≠noOwn→(t.put n o).pairs.Perm ((n,o)::notK n t.pairs)
 | .nil,n,o,_,ho=>by simp[TR.put,TR.pairs,zdx ho,notK]
 | .nd p q l r,n,o,hv,ho=>by
  have hroot:=TR.root_pre hv;obtain⟨h1,h2,h3,h4,h5⟩:=hv;have bl:∀x∈l.pairs,p++[false]<+:x.1:=TR.pairs_below h1 h3;have br:∀x∈r.pairs,p++[true]<+:x.1:=TR.pairs_below h2 h4;rw[TR.put]
  split
  ·rename_i e;subst e;have e1:notK p (ownP p q)=[]:=by unfold notK ownP;split<;>simp
   rw[TR.pairs,TR.pairs,zfi,zfi,e1,zeu fun x hx=>zcS (bl x hx),zeu fun x hx=>zcS (br x hx),zdx ho];exact List.Perm.refl _
  ·rename_i hne;have e0:notK n (ownP p q)=ownP p q:=zeu fun x hx=>by obtain⟨rfl,_⟩:=zfh hx;exact hne
   split
   ·rename_i hpn;have hx:=zb7 hpn (fun e=>hne e.symm)
    split
    ·rename_i hb;rw[hb]at hx
     have el:notK n l.pairs=l.pairs:=zeu fun x hx2 e=>by
      have:=zcb (bl x hx2);rw[e,zcb hx]at this;cases this
     rw[TR.pairs,TR.pairs,zfi,zfi,e0,el];have ih:=TR.put_pairs (n:=n) (o:=o) h2 ho;refine((List.Perm.append_left _ (List.Perm.append_left _ ih))).trans ?_;rw[←qby,←qby];exact List.perm_middle
    ·rename_i hb;have hb':zby n p.length=false:=qa9;rw[hb']at hx
     have er:notK n r.pairs=r.pairs:=zeu fun x hx2 e=>by
      have:=zcb (br x hx2);rw[e,zcb hx]at this;cases this
     rw[TR.pairs,TR.pairs,zfi,zfi,e0,er];have ih:=TR.put_pairs (n:=n) (o:=o) h1 ho;refine((List.Perm.append_left _ (List.Perm.append_right _ ih))).trans ?_;rw[qbW];exact List.perm_middle
   ·rename_i hpn;have hall:notK n (TR.nd p q l r).pairs=(TR.nd p q l r).pairs:=zeu fun x hx e=>hpn (by rw[←e];exact hroot x hx)
    split
    ·split
     ·rw[hall,TR.pairs,zdx ho];simp[TR.pairs]
     ·rw[hall,TR.pairs,zdx ho];simp[TR.pairs]
    ·split
     ·rw[hall,TR.pairs,zjF];simp only[qb0];rw[show(TR.nd n o .nil .nil).pairs=[(n,o)]by simp[TR.pairs,zdx ho]];exact List.perm_append_singleton _ _
     ·rw[hall,TR.pairs,zjF];simp only[qb0];rw[show(TR.nd n o .nil .nil).pairs=[(n,o)]by simp[TR.pairs,zdx ho]];exact List.Perm.refl _
def TR.isNil:TR→Bool
 | .nil=>true
 |_=>false
theorem TR.isNil_iff{t:TR}:t.isNil=true↔t=.nil:=by cases t<;>simp[TR.isNil]
def TR.pick(p:Key)(o:Own)(l r:TR):TR:=if o≠noOwn∨(l.isNil=false∧r.isNil=false)then .nd p o l r else if l.isNil=false then l else r
def TR.strip(is:Key→Own→Bool):TR→TR
 | .nil=>.nil
 | .nd p o l r=>TR.pick p (if is p o=true then noOwn else o) (l.strip is) (r.strip is)
def TR.find:TR→Key→Own→Own
 | .nil,_,a=>a
 | .nd p o l r,n,a=>if p<+:n then(if p=n then(if o≠noOwn then o else a)else if zby n p.length=true then r.find n (if o≠noOwn then o else a)else l.find n (if o≠noOwn then o else a))else a
def zda(n:Key)(s:Own×Int)(l:List (Key×Own)):Own×Int:=l.foldl (fun s x=>if x.1<+:n∧s.2<(x.1.length:Int)then(x.2,(x.1.length:Int))else s) s
theorem zgn(n:Key)(s:Own×Int)(a b:List (Key×Own)):zda n s (a++b)=zda n (zda n s a) b:=qcH ..
theorem zdr{n:Key}:∀{l:List (Key×Own)} {s:Own×Int},(∀x∈l,¬x.1<+:n)→zda n s l=s
 | [],s,_=>rfl
 |x::l,s,h=>by
  unfold zda;rw[List.foldl_cons,if_neg (fun hh=>h x (by simp) hh.1)];exact zdr (l:=l) fun y hy=>h y qa3
theorem TR.find_pairs:∀{t:TR} {n:Key} {a:Own} {m:Int},t.valid→(∀x∈t.pairs,m<(x.1.length:Int))→(zda n (a,m) t.pairs).1=t.find n a∧(m≤(zda n (a,m) t.pairs).2∧((zda n (a,m) t.pairs).2=m→zda n (a,m) t.pairs=(a,m)∧∀x∈t.pairs,¬x.1<+:n))
 | .nil,n,a,m,_,_=>⟨rfl,qda _,fun _=>⟨rfl,fun x hx=>by cases hx⟩⟩
 | .nd p o l r,n,a,m,hv,hm=>by
  have hroot:=TR.root_pre hv;obtain⟨h1,h2,h3,h4,h5⟩:=hv;have bl:∀x∈l.pairs,p++[false]<+:x.1:=TR.pairs_below h1 h3;have br:∀x∈r.pairs,p++[true]<+:x.1:=TR.pairs_below h2 h4;rw[TR.find]
  by_cases hpn:p<+:n
  ·rw[if_pos hpn]
   have e0:zda n (a,m) (ownP p o)=if o≠noOwn then(o,(p.length:Int))else(a,m):=by
    by_cases ho:o=noOwn
    ·rw[ho,zjF,if_neg (by simp)];rfl
    ·rw[zdx ho,if_pos ho];have:m<(p.length:Int):=hm (p,o) (by simp[TR.pairs,zdx ho]);simp[zda,hpn,this]
   obtain⟨a',m',hs,ha',hm'⟩:∃a' m',(if o≠noOwn then(o,(p.length:Int))else(a,m))=(a',m')∧a'=(if o≠noOwn then o else a)∧(m'=if o≠noOwn then(p.length:Int)else m):=by
    by_cases ho:o=noOwn
    ·exact⟨a,m,by simp[ho],by simp[ho],by simp[ho]⟩
    ·exact⟨o,p.length,by simp[ho],by simp[ho],by simp[ho]⟩
   rw[TR.pairs,zgn,e0,hs,←ha']
   have hlenl:∀x∈l.pairs,m'<(x.1.length:Int):=fun x hx=>by
    have h6:=hm x qaz;have h7:=(bl x hx).length_le;simp at h7;rw[hm'];split<;>omega
   have hlenr:∀x∈r.pairs,m'<(x.1.length:Int):=fun x hx=>by
    have h6:=hm x qaz;have h7:=(br x hx).length_le;simp at h7;rw[hm'];split<;>omega
   have hmm:m≤m'∧(m'=m→o=noOwn):=by
    by_cases ho:o=noOwn
    ·rw[hm',if_neg (by simp[ho])];exact⟨qda _,fun _=>ho⟩
    ·have:m<(p.length:Int):=hm (p,o) (by simp[TR.pairs,zdx ho]);rw[hm',if_pos ho];exact⟨qp,fun e=>by omega⟩
   have done:∀s:Own×Int,m'≤s.2→(s.2=m'→s=(a',m')∧∀x∈l.pairs++r.pairs,¬x.1<+:n)→m≤s.2∧(s.2=m→s=(a,m)∧∀x∈ownP p o++(l.pairs++r.pairs),¬x.1<+:n):=fun s g1 g2=>by
    refine⟨qp,fun e=>?_⟩;have em:m'=m:=qp;have ho:=hmm.2 em;obtain⟨q1,q2⟩:=g2 qp;refine⟨?_,?_⟩
    ·rw[q1,ha',em,if_neg (by simp[ho])]
    ·rw[ho,zjF];exact q2
   by_cases hnp:p=n
   ·subst hnp;rw[if_pos rfl,zgn]
    have n1:∀x∈l.pairs,¬x.1<+:p:=fun x hx h=>by
     have a1:=(bl x hx).length_le;have a2:=h.length_le;simp at a1;omega
    have n2:∀x∈r.pairs,¬x.1<+:p:=fun x hx h=>by
     have a1:=(br x hx).length_le;have a2:=h.length_le;simp at a1;omega
    rw[zdr n1,zdr n2]
    exact⟨rfl,done _ (qda _) fun _=>⟨rfl,fun x hx=>by
     rcases qbD.1 hx with hx|hx
     ·exact n1 x hx
     ·exact n2 x hx⟩⟩
   ·rw[if_neg hnp];have hx:=zb7 hpn (fun e=>hnp e.symm);rw[zgn];cases hb:zby n p.length with
    |true=>
     rw[hb]at hx
     have n1:∀x∈l.pairs,¬x.1<+:n:=fun x hx2 h=>by
      have:=zcb ((bl x hx2).trans h);rw[zcb hx]at this;cases this
     rw[zdr n1,if_pos rfl];obtain⟨k1,k2,k3⟩:=TR.find_pairs (n:=n) (a:=a') (m:=m') h2 hlenr
     exact⟨k1,done _ k2 fun e=>⟨(k3 e).1,fun x hx=>by
      rcases qbD.1 hx with hx|hx
      ·exact n1 x hx
      ·exact(k3 e).2 x hx⟩⟩
    |false=>
     rw[hb]at hx
     have n2:∀x∈r.pairs,¬x.1<+:n:=fun x hx2 h=>by
      have:=zcb ((br x hx2).trans h);rw[zcb hx]at this;cases this
     rw[zdr n2,if_neg (by simp)];obtain⟨k1,k2,k3⟩:=TR.find_pairs (n:=n) (a:=a') (m:=m') h1 hlenl
     exact⟨k1,done _ k2 fun e=>⟨(k3 e).1,fun x hx=>by
      rcases qbD.1 hx with hx|hx
      ·exact(k3 e).2 x hx
      ·exact n2 x hx⟩⟩
  ·rw[if_neg hpn];have n1:∀x∈(TR.nd p o l r).pairs,¬x.1<+:n:=fun x hx h=>hpn ((hroot x hx).trans h)
   rw[zdr n1];exact⟨rfl,qda _,fun _=>⟨rfl,n1⟩⟩
end Go.Proofs.YtdiljgkijgiboaaGreatDoor
namespace Go.Proofs.YtdiljgkijgiboaaGreatDoor
open Tryz
open Go.RowKit Go.Sort
theorem bitLenAux_le(f:Nat):∀(x j:Nat),x<2^f→(Lib.bitLenAux f x≤j↔x<2^j):=by
 induction f with
 | zero => intro x j hx; have : x = 0 := by simpa using hx
           subst this;simp[Lib.bitLenAux,qb6]
 |succ f ih=>
  intro x j hx
  by_cases h0:x=0
  ·subst h0;simp[Lib.bitLenAux,qb6]
  ·simp only[Lib.bitLenAux,h0,if_false];cases j with
   |zero=>simp;omega
   |succ j=>
    have h:=ih (x/2) j (by rw[qci]at hx;omega);rw[qci]
    constructor
    ·intro h1;have:=h.1 qp;omega
    ·intro h1;have:=h.2 qp;omega
theorem bitLen_le(x j:Nat)(hx:x<2^64):Lib.bitLen x≤j↔x<2^j:=bitLenAux_le 64 x j hx
def lcp(a b:Int):Int:=32-(Lib.bitLen (a.toNat ^^^ b.toNat):Int)
theorem lcp_bd(a b:Int)(h2:0≤a)(h3:a<4294967296)(h4:0≤b)(h5:b<4294967296):0≤lcp a b∧lcp a b≤32:=by
 unfold lcp;have hx:a.toNat ^^^ b.toNat<2^32:=Nat.xor_lt_two_pow qp qp;have:=(bitLen_le (a.toNat ^^^ b.toNat) 32 qp).2 hx;omega
theorem zhJ(a b k:Int)(h2:0≤a)(h3:a<4294967296)(h4:0≤b)(h5:b<4294967296)(hk0:0≤k)(hk1:k≤32):topI b k=topI a k↔k≤lcp a b:=by
 obtain⟨x,rfl⟩:=qbp h2;obtain⟨y,rfl⟩:=qbp h4;unfold lcp topI;obtain⟨j,hj⟩:∃j:Nat,(32-k).toNat=j:=⟨_,rfl⟩;rw[hj];have hx:x ^^^ y<2^32:=Nat.xor_lt_two_pow qp qp;have h:=bitLen_le (x ^^^ y) j qp
 have e1:k≤32-(Lib.bitLen ((x:Int).toNat ^^^ (y:Int).toNat):Int)↔x ^^^ y<2^j:=by
  rw[←h];simp only[qbt];omega
 rw[e1,zci]
 have key:(x ^^^ y<2^j)↔y/2^j=x/2^j:=by
  rw[←Nat.div_eq_zero_iff_lt (qb6 j),←Nat.shiftRight_eq_div_pow,←Nat.shiftRight_eq_div_pow,←Nat.shiftRight_eq_div_pow,Nat.shiftRight_xor_distrib]
  constructor
  ·intro h;have:=congrArg (fun z=>z ^^^ (y >>> j)) h;simp[Nat.xor_assoc]at this;exact this.symm
  ·intro h;rw[h,Nat.xor_self]
 rw[key];have d1:=Nat.div_add_mod x (2^j);have d2:=Nat.div_add_mod y (2^j);have m1:((x:Int)%((2^j:Nat):Int))=((x%2^j:Nat):Int):=qG;have m2:((y:Int)%((2^j:Nat):Int))=((y%2^j:Nat):Int):=qG;rw[m1,m2];have l1:=Nat.mod_lt x (qb6 j);have l2:=Nat.mod_lt y (qb6 j)
 constructor
 ·intro h;have h':2^j*(y/2^j)=2^j*(x/2^j):=qp;exact Nat.eq_of_mul_eq_mul_left (qb6 j) h'
 ·intro h;rw[h]at d2;omega
def joinE(a n b m:Int):Int:=if zaD a n=0 then zaD b m else zaD a n
def joinN(a n b m:Int):Int:=if joinE a n b m=0 then min (min n m) (lcp a b)else 0
def joinA(a n b m:Int):Int:=if joinE a n b m=0 then topI a (min (min n m) (lcp a b))else 0
theorem zgA(a k:Int)(h2:0≤a)(hk0:0≤k)(hk1:k≤32):zaD (topI a k) k=0:=by
 have hn:¬(k<0∨32<k):=qp;unfold zaD;rw[if_neg hn]
 have:topI a k%2^(32-k).toNat=0:=by
  unfold topI;have hq:=zdj (32-k).toNat;generalize (2:Int)^(32-k).toNat=p at hq;rw[Int.sub_emod,Int.emod_emod,Int.sub_self,Int.zero_emod]
 rw[if_pos this]
theorem holds_top(a n b m k:Int)(h2:0≤a)(h3:a<4294967296)(h4:0≤b)(h5:b<4294967296)(hk0:0≤k)(hk1:k≤32)(hf:zaD b m=0):
 zbP (topI a k) k b m=decide (k≤m∧k≤lcp a b):=by
 have h:=zhJ a b k h2 h3 h4 h5 hk0 hk1;unfold zbP zc2;rw[hf,zgA a k h2 hk0 hk1];simp[h]
theorem lcp_self(a:Int):lcp a a=32:=by
 unfold lcp;rw[Nat.xor_self];rfl
theorem a_min3{P:Program}{d:Option Tmp}{ty:TypeId}{pos:String}{af:Array Edge}{g:Option (Nat×Bool)}{x y z:Operand}{ts:Array TypeId}{k k' k'':IntKind}{a b c:Int}:AOp P ⟨d,.call {callee:=.builtin .min,args:= #[x,y,z],argTypes:=ts},ty,pos,af,g⟩ [.p (.v (.int k a)),.p (.v (.int k' b)),.p (.v (.int k'' c))] [] [] (.p (.v (.int k (min (min a b) c)))):=
 zaE fun S m w ev hr=>by
  obtain⟨h1,h2,h3⟩:=ziy (u:=ev x) (v:=ev y) (t:=ev z) hr;refine⟨.int k (min (min a b) c),?_,za7 rfl⟩;have e:(if b<a then b else a)=min a b:=by split<;>omega
  have e2:(if c<min a b then c else min a b)=min (min a b) c:=by split<;>omega
  simp[execOp,resolve,invoke,builtin,Builtin.min_,Builtin.min2,zbb h1,zbb h2,zbb h3,e,e2]
theorem lz_s(a b:Int)(h2:0≤a)(h3:a<4294967296)(h4:0≤b)(h5:b<4294967296):Fn prog 202 [qe ((a.toNat ^^^ b.toNat:Nat):Int)] (qd (lcp a b)) []:=by
 have hx:a.toNat ^^^ b.toNat<2^32:=Nat.xor_lt_two_pow qp qp;exact zgo (vs:=[.int .u32 ((a.toNat ^^^ b.toNat:Nat):Int)]) rfl (fun _ _ _=>za7 rfl) (fun w=>(Tryz.bits_LeadingZeros32 _ w qp qp).mono fun _ _ h=>⟨h.1,h.2▸Below.refl _ _⟩)
theorem nJoin_s(a n b m:Int)(hf:zaD a n=0)(hg:zaD b m=0)(h2:0≤a)(h3:a<4294967296)(h4:0≤b)(h5:b<4294967296):Fn prog 179 [.agg (netA a n),.agg (netA b m)] (.tup [.agg (netA (topI a (min (min n m) (lcp a b))) (min (min n m) (lcp a b))),qd 0]) []:=by
 have hC1:=zdk a n h2 h3;have hC2:=zdk b m h4 h5;have hZ:=lz_s a b h2 h3 h4 h5;have hl:=lcp_bd a b h2 h3 h4 h5;have hn:=zcv hf;have hm:=zcv hg;have hO:=nOf_s a (min (min n m) (lcp a b)) qp qp h2 h3;rw[hf]at hC1;rw[hg]at hC2;have hX:bits .xor .u32 a b=((a.toNat ^^^ b.toNat:Nat):Int):=u32_xor a b h2 h3 h4 h5;generalize topI a (min (min n m) (lcp a b))=t at*;generalize ((a.toNat ^^^ b.toNat:Nat):Int)=x at*
 generalize lcp a b=l at*;refine fnI fun w0 A=>?_
 refine G [12] ?_;refine jfZ (zdn underlying245 zr245 rfl zbw rfl) ?_;refine G [3] ?_;refine zag (fun k st=>∃i:Nat,k+i=2∧st=St.of [(2,.ref 2 0),(3,.ref 3 0),(4,.ref 4 0),(11,.agg [qe a,qd n,qe b,qd m]),(12,qd i)] [(2,.box 101 (netA a n)),(3,.box 101 (netA b m)),(4,.box 101 (netA 0 0))]) 2 ?_ ?_
 ·refine⟨_,zai id _ _ ?_ ?_ rfl,0,qp,rfl⟩
  ·(repeat(first|exact trivial|(refine⟨⟨qJ,rfl⟩,?_⟩)))
  ·exact⟨⟨rfl,rfl⟩,⟨rfl,rfl⟩,⟨rfl,rfl⟩,trivial⟩
 rintro k st ⟨i,hi,rfl⟩;refine G [5] ?_;refine cX ?_ ?_<;>intro h
 ·have hlt:i<2:=qw;clear h
  obtain⟨y,z,hy,hK⟩:∃y z:Int,(([qe a,qd n,qe b,qd m]:List AV).drop (i*2)).take 2=netA y z∧Fn prog 99 [.agg (netA y z)] (qd 0) []:=by
   match i,hlt with
   |0,_=>exact⟨a,n,rfl,hC1⟩
   |1,_=>exact⟨b,m,rfl,hC2⟩
  refine G [5] ?_;refine zaa (a_indexN underlying245 zbw U101 rfl qp qp (show _=netA y z by rw[qbt];exact hy)) rfl rfl ?_;refine G [6] ?_;refine cK hK ?_;refine G [5,1,7,9,0] ?_;refine⟨k-1,qp,_,zai id _ _ ?_ ?_ rfl,i+1,qp,rfl⟩
  ·(repeat(first|exact trivial|(refine⟨⟨qJ,rfl⟩,?_⟩)))
  ·exact⟨⟨rfl,rfl⟩,⟨rfl,rfl⟩,⟨rfl,rfl⟩,trivial⟩
 have hge:i=2:=qw;clear h;subst hge;refine G [13] ?_;refine zaa (zaV qG hX) rfl rfl ?_;refine cK hZ ?_;refine jfZ a_min3 ?_;refine cK hO ?_;refine G [6,9,0] ?_;exact yE
theorem nrJoin_s(a n b m:Int)(hf:zaD a n=0)(hg:zaD b m=0)(h2:0≤a)(h3:a<4294967296)(h4:0≤b)(h5:b<4294967296):Fn prog 157 [.agg (netA a n),.agg (netA b m)] (.tup [.agg (netA (topI a (min (min n m) (lcp a b))) (min (min n m) (lcp a b))),qd 0]) []:=by
 have hC1:=zdy a n h2 h3;have hC2:=zdy b m h4 h5;have hl:=lcp_bd a b h2 h3 h4 h5;have hn:=zcv hf;have hm:=zcv hg;obtain⟨K,hK⟩:∃K:Nat,min (min n m) (lcp a b)=(K:Int):=⟨(min (min n m) (lcp a b)).toNat,qp⟩;rw[hK];rw[hf]at hC1;rw[hg]at hC2;have hO:=fun(k:Nat) (h:k≤32)=>nrOf_s a k qp qp h2 h3
 have hA:=fun(k:Nat) (h:k≤32)=>nrHolds_s (topI a k) k a n (zgA a k h2 qp qp) hf (zgB a k h2).1 (by have:=zgB a k h2;omega) h2 h3
 have hB:=fun(k:Nat) (h:k≤32)=>nrHolds_s (topI a k) k b m (zgA a k h2 qp qp) hg (zgB a k h2).1 (by have:=zgB a k h2;omega) h4 h5
 have eA:=fun(k:Nat) (h:k≤32)=>holds_top a n a n k h2 h3 h2 h3 qp qp hf
 have eB:=fun(k:Nat) (h:k≤32)=>holds_top a n b m k h2 h3 h4 h5 qp qp hg
 rw[lcp_self]at eA;refine fnI fun w0 A=>?_
 refine G [11] ?_;refine cK hC1 ?_;refine G [5,1,7] ?_;refine cK hC2 ?_;refine G [5,1,8] ?_;refine zag (fun j st=>∃k:Nat,j+K=k∧k≤32∧st=St.of [(2,.ref 2 0),(3,.ref 3 0),(4,.ref 4 0),(8,qd k)] [(2,.box 101 (netA a n)),(3,.box 101 (netA b m)),(4,.box 101 (netA 0 0))]) (32-K) ?_ ?_
 ·refine⟨_,zai id _ _ ?_ ?_ rfl,32,qp,qp,rfl⟩
  ·(repeat(first|exact trivial|(refine⟨⟨qJ,rfl⟩,?_⟩)))
  ·exact⟨⟨rfl,rfl⟩,⟨rfl,rfl⟩,⟨rfl,rfl⟩,trivial⟩
 rintro j st ⟨k,hj,hk,rfl⟩;have hO:=hO k hk;have hA:=hA k hk;have hB:=hB k hk;rw[eA k hk]at hA;rw[eB k hk]at hB
 by_cases h1:k=K
 ·subst h1;rw[decide_eq_true (show(k:Int)≤n∧(k:Int)≤32 by omega)]at hA;rw[decide_eq_true (show(k:Int)≤m∧(k:Int)≤lcp a b by omega)]at hB;generalize topI a k=t at*;refine G [3] ?_
  skip
  refine G [4] ?_;refine cK hO ?_;refine G [11] ?_;refine cK hA ?_;refine G [3] ?_;refine cK hB ?_;refine G [10,9,0] ?_;exact yE
 by_cases h3:(k:Int)≤n
 ·rw[decide_eq_true (show(k:Int)≤n∧(k:Int)≤32 by omega)]at hA;rw[decide_eq_false (show¬((k:Int)≤m∧(k:Int)≤lcp a b)by omega)]at hB;generalize topI a k=t at*;refine G [3] ?_
  skip
  refine G [4] ?_;refine cK hO ?_;refine G [11] ?_;refine cK hA ?_;refine G [3] ?_;refine cK hB ?_;refine G [6] ?_;refine zaa (ziu (show _=((k-1:Nat):Int)by rw[qcd _ (by omega)];omega)) rfl rfl ?_;refine G [2,9,0] ?_;refine⟨j-1,qp,_,zai id _ _ ?_ ?_ rfl,k-1,qp,qp,rfl⟩
  ·(repeat(first|exact trivial|(refine⟨⟨qJ,rfl⟩,?_⟩)))
  ·exact⟨⟨rfl,rfl⟩,⟨rfl,rfl⟩,⟨rfl,rfl⟩,trivial⟩
 rw[decide_eq_false (show¬((k:Int)≤n∧(k:Int)≤32)by omega)]at hA;generalize topI a k=t at*;refine G [3] ?_
 skip
 refine G [4] ?_;refine cK hO ?_;refine G [11] ?_;refine cK hA ?_;refine G [10] ?_;refine zaa (ziu (show _=((k-1:Nat):Int)by rw[qcd _ (by omega)];omega)) rfl rfl ?_;refine G [2,9,0] ?_;refine⟨j-1,qp,_,zai id _ _ ?_ ?_ rfl,k-1,qp,qp,rfl⟩
 ·(repeat(first|exact trivial|(refine⟨⟨qJ,rfl⟩,?_⟩)))
 ·exact⟨⟨rfl,rfl⟩,⟨rfl,rfl⟩,⟨rfl,rfl⟩,trivial⟩
end Go.Proofs.YtdiljgkijgiboaaGreatDoor
namespace Go.Proofs.YtdiljgkijgiboaaGreatDoor
def valK(p:Key):Nat:=p.foldl (fun a b=>2*a+b.toNat) 0
theorem valK_go(p:Key)(a:Nat):p.foldl (fun a b=>2*a+b.toNat) a=a*2^p.length+valK p:=by
 unfold valK
 induction p generalizing a with
 |nil=>simp
 |cons b p ih=>
  rw[List.foldl_cons,ih,List.foldl_cons,ih (2*0+b.toNat),qbE,qci,qcJ];have e0:2*0+b.toNat=b.toNat:=qp;rw[e0];have:2*a*2^p.length=a*(2^p.length*2):=by rw[qcT 2 a,Nat.mul_assoc,qcT 2]
  omega
theorem zfc(p q:Key):valK (p++q)=valK p*2^q.length+valK q:=by
 conv=>lhs;unfold valK
 rw[qcH];exact valK_go q _
theorem zhn(b:Bool):valK [b]=b.toNat:=by simp[valK]
theorem zfz:∀p:Key,valK p<2^p.length:=by
 intro p
 induction p with
 |nil=>simp[valK]
 |cons b p ih=>
  have h:=zfc [b] p;rw[qb3,zhn]at h;rw[h,qbE,qci];have:b.toNat*2^p.length≤1*2^p.length:=qb8 _ (by cases b<;>decide);omega
theorem zho:∀{p q:Key},p.length=q.length→valK p=valK q→p=q
 | [],[],_,_=>rfl
 | [],_::_,h,_=>by simp at h
 |_::_,[],h,_=>by simp at h
 |a::p,b::q,h,k=>by
  have h':p.length=q.length:=qB;have h1:=zfc [a] p;have h2:=zfc [b] q;rw[qb3,zhn]at h1 h2;rw[h1,h2,h']at k;have l1:=zfz p;have l2:=zfz q;rw[h']at l1
  have hab:a=b:=by
   cases a<;>cases b<;>simp at k⊢ <;>omega
  subst hab;rw[zho h' (by omega)]
theorem valK_take(q:Key)(k:Nat)(h:k≤q.length):valK (q.take k)=valK q/2^(q.length-k):=by
 have h1:=zfc (q.take k) (q.drop k);rw[qb9,qbH]at h1;have h2:=zfz (q.drop k);rw[qbH]at h2;rw[h1,qcT,Nat.mul_add_div (qb6 _),Nat.div_eq_of_lt h2,qb4]
def zei(p:Key):Nat:=valK p*2^(32-p.length)
def zaB(p:Key):Int:=(zei p:Nat)
theorem addrN_lt(p:Key)(h:p.length≤32):zei p<4294967296:=by
 have h1:=zfz p;have h2:valK p*2^(32-p.length)<2^p.length*2^(32-p.length):=Nat.mul_lt_mul_of_pos_right h1 (qb6 _);rw[←Nat.pow_add,show p.length+(32-p.length)=32 by omega]at h2;exact h2
theorem zba(p:Key)(h:p.length≤32):0≤zaB p∧zaB p<4294967296:=by
 have:=addrN_lt p h;unfold zaB;omega
theorem zis(q:Key)(k:Nat)(hq:q.length≤32)(hk:k≤q.length):zei q/2^(32-k)=valK (q.take k):=by
 rw[valK_take q k hk,zei];have e:32-k=(q.length-k)+(32-q.length):=qp;rw[e,Nat.pow_add,qcT (2^(q.length-k)),←qcL,Nat.mul_div_cancel _ (qb6 _)]
theorem pow_toN(k:Nat)(hk:k≤32):((2:Int)^(32-(k:Int)).toNat)=((2^(32-k):Nat):Int):=by
 rw[show(32-(k:Int)).toNat=32-k by omega];simp
theorem zf3(q:Key)(k:Nat)(hq:q.length≤32)(hk:k≤q.length):topI (zaB q) k=zaB (q.take k):=by
 unfold topI zaB;rw[pow_toN k (by omega)];have h1:=zis q k hq hk;have h2:zei (q.take k)=valK (q.take k)*2^(32-k):=by unfold zei;rw[List.length_take,Nat.min_eq_left hk]
 have h3:=Nat.div_add_mod (zei q) (2^(32-k));rw[h2,←h1,qcT];generalize zei q/2^(32-k)=D at*;generalize hM:2^(32-k)=M at*;have h4:((zei q:Nat):Int)%((M:Nat):Int)=((zei q%M:Nat):Int):=qG;rw[h4];have h5:zei q%M≤zei q:=Nat.mod_le _ _;omega
theorem zbJ(p:Key)(hp:p.length≤32):zaD (zaB p) p.length=0:=by
 unfold zaD;rw[if_neg (by omega),if_pos];rw[pow_toN _ hp];unfold zaB zei;simp
theorem zit{p q:Key}(hp:p.length≤32)(hl:p.length=q.length)(h:zaB p=zaB q):p=q:=by
 have h':zei p=zei q:=by unfold zaB at h;omega
 unfold zei at h';rw[←hl]at h';exact zho hl (Nat.eq_of_mul_eq_mul_right (qb6 _) h')
theorem pre_iff{p q:Key}:p<+:q↔p.length≤q.length∧q.take p.length=p:=by
 constructor
 ·intro h;exact⟨h.length_le,(List.prefix_iff_eq_take.1 h).symm⟩
 ·rintro⟨_,h⟩;rw[←h];exact List.take_prefix _ _
theorem top_pre(p q:Key)(hq:q.length≤32)(hk:p.length≤q.length):topI (zaB q) p.length=zaB p↔p<+:q:=by
 rw[zf3 q _ hq hk,pre_iff]
 constructor
 ·intro h;have hl:(q.take p.length).length=p.length:=qad;exact⟨hk,zit qp hl h⟩
 ·rintro⟨_,h⟩;rw[h]
theorem holds_pre(p q:Key)(hp:p.length≤32)(hq:q.length≤32):zbP (zaB p) p.length (zaB q) q.length=decide (p<+:q):=by
 unfold zbP zc2;rw[zbJ p hp,zbJ q hq];simp only[true_and]
 by_cases hl:p.length≤q.length
 ·rw[show decide (((p.length:Nat):Int)≤((q.length:Nat):Int))=true by simp;omega,Bool.true_and];exact decide_eq_decide.2 (top_pre p q hq hl)
 ·rw[show decide (((p.length:Nat):Int)≤((q.length:Nat):Int))=false by simp;omega,Bool.false_and]
  symm
  rw[decide_eq_false_iff_not];intro h;exact hl h.length_le
def zeW(a n:Nat):Key:=(List.range n).map fun i=>decide (a/2^(31-i)%2=1)
theorem zd9(a n:Nat):(zeW a n).length=n:=by simp[zeW]
theorem zh6(a n:Nat)(ha:a<4294967296)(hn:n≤32):valK (zeW a n)=a/2^(32-n):=by
 induction n with
 |zero=>
  rw[Nat.sub_zero,Nat.div_eq_of_lt ha];rfl
 |succ n ih=>
  have e:zeW a (n+1)=zeW a n++[decide (a/2^(31-n)%2=1)]:=by simp[zeW,qcw]
  rw[e,zfc,zhn,ih (by omega),qcy,Nat.pow_one];rw[show 32-(n+1)=31-n by omega,show 32-n=(31-n)+1 by omega,qci,←qcL];generalize a/2^(31-n)=x
  by_cases h:x%2=1
  ·rw[decide_eq_true h];simp;omega
  ·rw[decide_eq_false h];simp;omega
theorem net_key{a n:Int}(h0:0≤a)(h1:a<4294967296)(hf:zaD a n=0):∃p:Key,p.length≤32∧a=zaB p∧n=p.length:=by
 obtain⟨n0,n1,hm⟩:=zcv hf;obtain⟨a,rfl⟩:=qbp h0;obtain⟨n,rfl⟩:=qbp n0;refine⟨zeW a n,by rw[zd9];omega,?_,by rw[zd9]⟩;have ha:a<4294967296:=qp;rw[pow_toN n (by omega)]at hm
 have hm':a%2^(32-n)=0:=by
  have h4:((a:Nat):Int)%((2^(32-n):Nat):Int)=((a%2^(32-n):Nat):Int):=qG;rw[h4]at hm;omega
 unfold zaB zei;rw[zd9,zh6 a n ha (by omega)];have:=Nat.div_add_mod a (2^(32-n));rw[qcT]at this;omega
theorem has_pre(p q:Key)(hp:p.length≤32)(hq:q.length=32):zc2 (zaB p) p.length (zaB q)=decide (p<+:q):=by
 unfold zc2;rw[zbJ p hp];simp only[true_and];exact decide_eq_decide.2 (top_pre p q qp qp)
theorem bit_key(q:Key)(i:Nat)(hq:q.length≤32)(hi:i<q.length):zaB q/2^(31-(i:Int)).toNat%2=if zby q i=true then 1 else 0:=by
 have h1:=zis q (i+1) hq qp;rw[show(31-(i:Int)).toNat=32-(i+1)by omega];have h2:zaB q/2^(32-(i+1))=((zei q/2^(32-(i+1)):Nat):Int):=by unfold zaB;simp
 rw[h2,h1,qbs hi,zfc,zhn];have e:zby q i=q[i]:=by unfold zby;rw[List.getD_eq_getElem?_getD,List.getElem?_eq_getElem hi];rfl
 rw[e];cases q[i]<;>simp<;>omega
theorem lcpL_len_iff(p q:Key)(k:Nat)(h1:k≤p.length)(h2:k≤q.length):k≤(lcpL p q).length↔p.take k=q.take k:=by
 constructor
 ·intro h;have a1:=List.prefix_iff_eq_take.1 (zdz p q);have a2:=List.prefix_iff_eq_take.1 (zdq p q)
  have b1 : p.take k = (lcpL p q).take k := by conv => rhs; rw [a1]
                                               rw[qcP,Nat.min_eq_left h]
  have b2 : q.take k = (lcpL p q).take k := by conv => rhs; rw [a2]
                                               rw[qcP,Nat.min_eq_left h]
  rw[b1,b2]
 ·intro h;have:=(zfl (List.take_prefix k p) (by rw[h];exact List.take_prefix k q)).length_le;rw[List.length_take]at this;omega
theorem join_key(p q:Key)(hp:p.length≤32)(hq:q.length≤32):joinE (zaB p) p.length (zaB q) q.length=0∧joinN (zaB p) p.length (zaB q) q.length=(lcpL p q).length∧joinA (zaB p) p.length (zaB q) q.length=zaB (lcpL p q):=by
 have hE:joinE (zaB p) p.length (zaB q) q.length=0:=by unfold joinE;rw[if_pos (zbJ p hp)];exact zbJ q hq
 obtain⟨b0,b1⟩:=zba p hp;obtain⟨b2,b3⟩:=zba q hq;obtain⟨c0,c1⟩:=lcp_bd (zaB p) (zaB q) b0 b1 b2 b3
 have key:∀k:Nat,k≤p.length→k≤q.length→(k≤(lcpL p q).length↔(k:Int)≤lcp (zaB p) (zaB q)):=fun k h1 h2=>by
  rw[lcpL_len_iff p q k h1 h2,←zhJ (zaB p) (zaB q) k b0 b1 b2 b3 (by omega) (by omega),zf3 p k hp h1,zf3 q k hq h2]
  constructor
  ·intro h;rw[h]
  ·intro h;exact(zit qad (by rw[List.length_take,List.length_take];omega) h).symm
 have l1:=(zdz p q).length_le;have l2:=(zdq p q).length_le
 have hJ:min (min (p.length:Int) (q.length:Int)) (lcp (zaB p) (zaB q))=((lcpL p q).length:Int):=by
  have k1:=(key (lcpL p q).length l1 l2).1 (Nat.le_refl _);obtain⟨J,hJ⟩:∃J:Nat,min (min (p.length:Int) (q.length:Int)) (lcp (zaB p) (zaB q))=(J:Int):=⟨(min (min (p.length:Int) (q.length:Int)) (lcp (zaB p) (zaB q))).toNat,qp⟩;have k2:=(key J qp qp).2 qp;omega
 refine⟨hE,?_,?_⟩
 ·unfold joinN;rw[if_pos hE,hJ]
 ·unfold joinA;rw[if_pos hE,hJ,zf3 p _ hp l1,←List.prefix_iff_eq_take.1 (zdz p q)]
structure ND where
 a:Int
 n:Int
 o:ByteArray
 s:Int
theorem ND.ext'{x y:ND}(h1:x.a=y.a)(h2:x.n=y.n)(h3:x.o=y.o)(h4:x.s=y.s):x=y:=by
 cases x;cases y;simp at h1 h2 h3 h4;subst h1;subst h2;subst h3;subst h4;rfl
def ND.pv(x:ND):List PV:=[qi x.a,qh x.n,qg x.o,qh x.s]
structure ND.OK(x:ND):Prop where
 a0:0≤x.a
 a1:x.a<4294967296
 n0: -9223372036854775808≤x.n
 n1:x.n≤9223372036854775807
 s0: -9223372036854775808≤x.s
 s1:x.s≤9223372036854775807
 oz:x.o.size≤140737488351232
def ND.fault(x:ND):Int:=zaD x.a x.n
def ND.key(x:ND):Key:=zeW x.a.toNat x.n.toNat
def toND(x:Nd):ND:=⟨zaB x.1,x.1.length,x.2.1,x.2.2⟩
def TR.list(t:TR):List ND:=t.nodes.map toND
def TR.short:TR→Prop
 | .nil=>True
 | .nd p _ l r=>p.length≤32∧l.short∧r.short
theorem TR.list_nil:TR.nil.list=[]:=rfl
theorem TR.list_nd(p:Key)(o:Own)(l r:TR):(TR.nd p o l r).list=⟨zaB p,p.length,o,(((l.list++r.list).length+1:Nat):Int)⟩::(l.list++r.list):=by
 simp only[TR.list,TR.nodes,qbu,qbY,toND,qbm,List.length_map]
 congr 2
 omega
theorem zke(p:Key)(hp:p.length≤32):zeW (zaB p).toNat ((p.length:Nat):Int).toNat=p:=by
 have h1:(zaB p).toNat=zei p:=by unfold zaB;omega
 rw[h1,qbt];refine zho (zd9 _ _) ?_;rw[zh6 _ _ (addrN_lt p hp) hp,zis p _ hp (Nat.le_refl _),qbL]
theorem ND.keyed{x:ND}(h0:0≤x.a)(h1:x.a<4294967296)(hf:x.fault=0):x.key.length≤32∧x.a=zaB x.key∧x.n=(x.key.length:Int):=by
 obtain⟨p,hp,ha,hn⟩:=net_key h0 h1 hf;have:x.key=p:=by unfold ND.key;rw[ha,hn];exact zke p hp
 rw[this];exact⟨hp,ha,hn⟩
theorem TR.list_fault:∀{t:TR},t.short→∀x∈t.list,x.fault=0
 | .nil,_,x,h=>by cases h
 | .nd p o l r,hs,x,h=>by
  rw[TR.list_nd]at h;rcases qbA.1 h with rfl|h
  ·exact zbJ p hs.1
  ·rcases qbD.1 h with h|h
   ·exact TR.list_fault hs.2.1 x h
   ·exact TR.list_fault hs.2.2 x h
def zfy(p q:Key):Bool:=decide (p.length<q.length)&&decide (p<+:q)
theorem zje{p q:Key}:zfy p q=true↔p++[zby q p.length]<+:q:=by
 unfold zfy;simp only[qbB,decide_eq_true_eq]
 constructor
 ·rintro⟨h1,h2⟩;exact zb7 h2 fun e=>by rw[e]at h1;omega
 ·intro h;have h1:=h.length_le;simp at h1;exact⟨qp,zet h⟩
def zew(g:List ND→Option (TR×List ND))(p:Key):Nat→TR→TR→List ND→Option (TR×TR)
 |_,k0,k1,[]=>some (k0,k1)
 |0,_,_,_::_=>none
 |m+1,k0,k1,x::l=>
  match g (x::l)with
  |some (.nd q o a b,more)=>
   if zfy p q=true then
    if zby q p.length=true then(if k1.isNil=true then zew g p m k0 (.nd q o a b) more else none)
    else(if k0.isNil=true∧k1.isNil=true then zew g p m (.nd q o a b) k1 more else none)
   else none
  |_=>none
def zgR(p:Key)(o:Own)(rest:List ND):Option (TR×TR)→Option (TR×List ND)
 |none=>none
 |some (k0,k1)=>if o=noOwn∧(k0.isNil=true∨k1.isNil=true)then none else some (.nd p o k0 k1,rest)
theorem growTop_no{p:Key}{o:Own}{rest:List ND}{k0 k1:TR}(h:o=noOwn∧(k0.isNil=true∨k1.isNil=true)):zgR p o rest (some (k0,k1))=none:=by simp only[zgR];rw[if_pos h]
theorem zid{p:Key}{o:Own}{rest:List ND}{k0 k1:TR}(h:¬(o=noOwn∧(k0.isNil=true∨k1.isNil=true))):zgR p o rest (some (k0,k1))=some (.nd p o k0 k1,rest):=by simp only[zgR];rw[if_neg h]
def zdH:Nat→List ND→Option (TR×List ND)
 |0,_=>none
 |_+1,[]=>none
 |n+1,x::l=>
  if x.s<1∨((l.length+1:Nat):Int)<x.s∨x.fault≠0 then none
  else zgR x.key x.o (l.drop (x.s.toNat-1)) (zew (zdH n) x.key (l.take (x.s.toNat-1)).length .nil .nil (l.take (x.s.toNat-1)))
def GoodT(t:TR):Prop:=t.valid∧t.short∧t≠.nil
theorem zfN{g:List ND→Option (TR×List ND)}{p:Key}(hg:∀l t rest,(∀x∈l,x.OK)→g l=some (t,rest)→GoodT t∧l=t.list++rest):
 ∀{m:Nat} {k0 k1:TR} {l:List ND} {r0 r1:TR},(∀x∈l,x.OK)→zew g p m k0 k1 l=some (r0,r1)→(k0.valid∧k0.short∧k0.under (p++[false]))→(k1.valid∧k1.short∧k1.under (p++[true]))→
  (r0.valid∧r0.short∧r0.under (p++[false]))∧(r1.valid∧r1.short∧r1.under (p++[true]))∧k0.list++k1.list++l=r0.list++r1.list
 |m,k0,k1,[],r0,r1,_,h,h0,h1=>by
  cases m<;>(simp only[zew,Option.some.injEq,Prod.mk.injEq]at h;obtain⟨rfl,rfl⟩:=h;exact⟨h0,h1,qG⟩)
 |0,k0,k1,_::_,r0,r1,_,h,_,_=>by simp[zew]at h
 |m+1,k0,k1,x::l,r0,r1,hok,h,h0,h1=>by
  simp only[zew]at h
  split at h
  ·rename_i q o a b more hq;obtain⟨hgt,hl⟩:=hg _ _ _ hok hq;have hmore:∀x∈more,x.OK:=fun y hy=>hok y (by rw[hl];exact qbD.2 (.inr hy))
   split at h
   ·rename_i hb;have hb':=zje.1 hb
    split at h
    ·rename_i hbit;rw[hbit]at hb'
     split at h
     ·rename_i hn;rw[TR.isNil_iff]at hn;subst hn;obtain⟨a1,a2,a3⟩:=zfN hg hmore h h0 ⟨hgt.1,hgt.2.1,hb'⟩;refine⟨a1,a2,?_⟩;rw[←a3,hl,TR.list_nil];simp
     ·cases h
    ·rename_i hbit;have hbit':zby q p.length=false:=by simpa using hbit
     rw[hbit']at hb'
     split at h
     ·rename_i hn;rw[TR.isNil_iff,TR.isNil_iff]at hn;obtain⟨rfl,rfl⟩:=hn;obtain⟨a1,a2,a3⟩:=zfN hg hmore h ⟨hgt.1,hgt.2.1,hb'⟩ h1;refine⟨a1,a2,?_⟩;rw[←a3,hl,TR.list_nil];simp
     ·cases h
   ·cases h
  ·cases h
theorem zez:∀{n:Nat} {l:List ND} {t:TR} {rest:List ND},(∀x∈l,x.OK)→zdH n l=some (t,rest)→GoodT t∧l=t.list++rest
 |0,l,t,rest,_,h=>by simp[zdH]at h
 |n+1,[],t,rest,_,h=>by simp[zdH]at h
 |n+1,x::l,t,rest,hok,h=>by
  simp only[zdH]at h
  split at h
  ·cases h
  ·rename_i hc;simp only[not_or,Int.not_lt]at hc;obtain⟨c1,c2,c3⟩:=hc;have c3:x.fault=0:=qbq.1 c3;cases hk:zew (zdH n) x.key (l.take (x.s.toNat-1)).length .nil .nil (l.take (x.s.toNat-1))with
   |none=>rw[hk]at h;cases h
   |some r=>
    obtain⟨k0,k1⟩:=r;rw[hk]at h;simp only[zgR]at h
    split at h
    ·cases h
    ·rename_i hn;simp only[Option.some.injEq,Prod.mk.injEq]at h;obtain⟨rfl,rfl⟩:=h;have hx:=hok x qG;obtain⟨q1,q2,q3⟩:=ND.keyed hx.a0 hx.a1 c3;have hmine:∀y∈l.take (x.s.toNat-1),y.OK:=fun y hy=>hok y (List.mem_cons_of_mem _ (qbI hy))
     obtain⟨a1,a2,a3⟩:=zfN (fun l t rest=>zez) hmine hk ⟨trivial,trivial,trivial⟩ ⟨trivial,trivial,trivial⟩;simp only[TR.list_nil,qb0]at a3;refine⟨⟨⟨a1.1,a2.1,a1.2.2,a2.2.2,fun e=>?_⟩,⟨q1,a1.2.1,a2.2.1⟩,qG⟩,?_⟩
     ·simp only[not_and,not_or]at hn;obtain⟨u1,u2⟩:=hn e;exact⟨fun e=>u1 (TR.isNil_iff.2 e),fun e=>u2 (TR.isNil_iff.2 e)⟩
     ·rw[TR.list_nd,←a3,qbW,qb9]
      congr 1
      refine ND.ext' q2 q3 rfl ?_;simp only[List.length_take];omega
theorem kidsF_one{g:List ND→Option (TR×List ND)}{p q:Key}{o:Own}{a b k0 k1:TR}{m:Nat}{l more:List ND}(hl:l≠[])(hg:g l=some (.nd q o a b,more))(hb:zfy p q=true):
 zew g p (m+1) k0 k1 l=if zby q p.length=true then(if k1.isNil=true then zew g p m k0 (.nd q o a b) more else none)else(if k0.isNil=true∧k1.isNil=true then zew g p m (.nd q o a b) k1 more else none):=by
 cases l with
 |nil=>exact absurd rfl hl
 |cons x l=>simp only[zew,hg,hb,if_true]
theorem zh4{g:List ND→Option (TR×List ND)}{p:Key}{m:Nat}{k0 k1:TR}:zew g p m k0 k1 []=some (k0,k1):=by cases m<;>simp[zew]
theorem TR.list_ne{t:TR}(h:t≠.nil):t.list≠[]:=by
 cases t with
 |nil=>exact absurd rfl h
 |nd p o l r=>rw[TR.list_nd];simp
theorem zhF{p:Key}{b:Bool}{q:Key}{o:Own}{l r:TR}(h:(TR.nd q o l r).under (p++[b])):zfy p q=true∧zby q p.length=b:=by
 have hb:zby q p.length=b:=zcb h;exact⟨zje.2 (by rw[hb];exact h),hb⟩
theorem zfo:∀{t:TR} {n:Nat} {rest:List ND},GoodT t→t.list.length≤n→zdH n (t.list++rest)=some (t,rest)
 | .nil,n,rest,h,_=>absurd rfl h.2.2
 | .nd p o l r,0,rest,h,hn=>by rw[TR.list_nd]at hn;simp at hn
 | .nd p o l r,n+1,rest,h,hn=>by
  obtain⟨⟨v1,v2,v3,v4,v5⟩,⟨s0,s1,s2⟩,_⟩:=h;have hkey:ND.key ⟨zaB p,p.length,o,(((l.list++r.list).length+1:Nat):Int)⟩=p:=zke p s0;have hf:ND.fault ⟨zaB p,p.length,o,(((l.list++r.list).length+1:Nat):Int)⟩=0:=zbJ p s0;have hlen:l.list.length+r.list.length≤n:=by rw[TR.list_nd]at hn;simp at hn;exact hn
  have ht:((l.list++r.list)++rest).take ((((l.list++r.list).length+1:Nat):Int).toNat-1)=l.list++r.list:=by
   rw[show(((l.list++r.list).length+1:Nat):Int).toNat-1=(l.list++r.list).length by omega,List.take_left'];rfl
  have hd:((l.list++r.list)++rest).drop ((((l.list++r.list).length+1:Nat):Int).toNat-1)=rest:=by
   rw[show(((l.list++r.list).length+1:Nat):Int).toNat-1=(l.list++r.list).length by omega,List.drop_left'];rfl
  rw[TR.list_nd,qbW,zdH,if_neg (by
   rintro(h|h|h)
   ·have h':(((l.list++r.list).length+1:Nat):Int)<1:=h;omega
   ·have h':((((l.list++r.list)++rest).length+1:Nat):Int)<(((l.list++r.list).length+1:Nat):Int):=h;have e9:((l.list++r.list)++rest).length=(l.list++r.list).length+rest.length:=qbm;rw[e9]at h';omega
   ·exact h hf)]
  simp only[hkey,ht,hd]
  have hk:zew (zdH n) p (l.list++r.list).length .nil .nil (l.list++r.list)=some (l,r):=by
   have hr:∀(m:Nat) (k0:TR),r.list.length≤m→zew (zdH n) p m k0 .nil r.list=some (k0,r):=fun m k0 hm=>by
    cases r with
    |nil=>rw[TR.list_nil];exact zh4
    |nd q o' a b=>
     have hne:(TR.nd q o' a b).list≠[]:=TR.list_ne qG;obtain⟨u1,u2⟩:=zhF v4;have hg:=zfo (t:=.nd q o' a b) (n:=n) (rest:=[]) ⟨v2,s2,qG⟩ qp;rw[List.append_nil]at hg;cases m with
     |zero=>exact absurd (qbz qp) hne
     |succ m=>rw[kidsF_one hne hg u1,if_pos u2];simp only[TR.isNil,if_true];exact zh4
   cases l with
   |nil=>rw[TR.list_nil,qb0];exact hr _ _ (Nat.le_refl _)
   |nd q o' a b=>
    have hne:(TR.nd q o' a b).list≠[]:=TR.list_ne qG;obtain⟨u1,u2⟩:=zhF v3;have hg:=zfo (t:=.nd q o' a b) (n:=n) (rest:=r.list) ⟨v1,s1,qG⟩ qp;have hpos:=List.length_pos_iff.2 hne;obtain⟨m,hm⟩:∃m,((TR.nd q o' a b).list++r.list).length=m+1:=⟨((TR.nd q o' a b).list++r.list).length-1,by rw[qbm];omega⟩;rw[hm,kidsF_one (by simp[hne]) hg u1,if_neg (by simp[u2])];simp only[TR.isNil,and_self,if_true];exact hr m _ (by rw[qbm]at hm;omega)
  rw[hk];refine zid ?_;rintro⟨e,h⟩;obtain⟨w1,w2⟩:=v5 e;rcases h with h|h
  ·exact w1 (TR.isNil_iff.1 h)
  ·exact w2 (TR.isNil_iff.1 h)
theorem nodup_lt:∀(N:Nat) (l:List Nat),l.Nodup→(∀x∈l,x<N)→l.length≤N
 |0,l,_,h=>by
  cases l with
  |nil=>simp
  |cons x l=>exact absurd (h x qG) qp
 |N+1,l,hd,h=>by
  have h1:=nodup_lt N (l.erase N) (hd.erase N) fun x hx=>by
   have hm:=(hd.mem_erase_iff).1 hx;have:=h x hm.2;omega
  have h2:=List.length_erase (a:=N) (l:=l)
  split at h2<;>omega
def codeK(p:Key):Nat:=2^p.length+valK p
theorem codeK_lt(p:Key)(h:p.length≤32):codeK p<8589934592:=by
 have h1:=zfz p;have h2:2^p.length≤2^32:=qbS qp h;unfold codeK;omega
theorem codeK_inj{p q:Key}(h:codeK p=codeK q):p=q:=by
 have h1:=zfz p;have h2:=zfz q;unfold codeK at h
 have hl:p.length=q.length:=by
  rcases Nat.lt_trichotomy p.length q.length with hl|hl|hl
  ·have:2^(p.length+1)≤2^q.length:=qbS qp hl;rw[qci]at this;omega
  ·exact hl
  ·have:2^(q.length+1)≤2^p.length:=qbS qp hl;rw[qci]at this;omega
 rw[hl]at h;exact zho hl qp
theorem map_nodup{α β:Type}{f:α→β}(hf:∀a b,f a=f b→a=b):∀{l:List α},l.Nodup→(l.map f).Nodup
 | [],_=>List.nodup_nil
 |x::l,h=>by
  rw[qc4]at h;rw[qbu,qc4];refine⟨fun hx=>?_,map_nodup hf h.2⟩;obtain⟨y,hy,e⟩:=qbv.1 hx;rw[hf _ _ e]at hy;exact h.1 hy
theorem keys_few{l:List Key}(hd:l.Nodup)(h:∀p∈l,p.length≤32):l.length≤8589934592:=by
 have h1:=nodup_lt 8589934592 (l.map codeK) (map_nodup (fun _ _=>codeK_inj) hd) fun x hx=>by
  obtain⟨p,hp,rfl⟩:=qbv.1 hx;exact codeK_lt p (h p hp)
 simpa using h1
theorem side_pre{M:List (Key×Own)}{b:Bool}:∀x∈zaR (za0 M) b M,za0 M++[b]<+:x.1:=fun x hx=>by
 obtain⟨h1,h2,h3⟩:=zc0.1 hx;rw[←h3];exact zb7 (zdA x h1) h2
theorem side_lt{M:List (Key×Own)}(hM:M≠[])(b:Bool):(zaR (za0 M) b M).length<M.length:=by
 have hle:(zaR (za0 M) b M).length≤M.length:=List.length_filter_le _ _;rcases qc2 (zaR (za0 M) b M).length M.length with h|h
 ·exact h
 ·exfalso
  have e:zaR (za0 M) b M=M:=by
   have:=qcU (p:=fun x:Key×Own=> !decide (x.1=za0 M)&&(zby x.1 (za0 M).length==b)) (l:=M);exact this.eq_of_length (Nat.le_antisymm hle h)
  have hm:za0 M++[b]<+:za0 M:=zex hM fun x hx=>side_pre x (by rw[e];exact hx)
  have:=hm.length_le;simp only[qbm,qcy]at this;omega
theorem zjr(top:Key)(M:List (Key×Own)):(zaR top false M).length+(zaR top true M).length≤M.length:=by
 induction M with
 |nil=>simp[zaR]
 |cons x M ih=>
  unfold zaR at ih⊢;simp only[qcr]
  split<;>split<;>simp only[qbE]<;>first
   |omega
   |(rename_i h1 h2;simp only[qbB,beq_iff_eq]at h1 h2;rw[h1.2]at h2;exact absurd h2.2 qS)
theorem zed:∀(n:Nat) (M:List (Key×Own)),(zbF n M).length≤2*M.length-1
 |0,[]=>by simp[zbF]
 |0,_::_=>by simp[zbF]
 |_+1,[]=>by simp[zbF]
 |n+1,x::l=>by
  have h1:=zed n (zaR (za0 (x::l)) false (x::l));have h2:=zed n (zaR (za0 (x::l)) true (x::l));have h3:=zjr (za0 (x::l)) (x::l);have h4:=side_lt (M:=x::l) qG false;have h5:=side_lt (M:=x::l) qG true;simp only[zbF,qbE,qbm]at*;omega
theorem joinAll_le{M:List (Key×Own)}{k:Nat}(h:∀x∈M,x.1.length≤k):(za0 M).length≤k:=by
 cases M with
 |nil=>simp[za0]
 |cons x M=>exact qc5 (zdA (l:=x::M) x qG).length_le (h x qG)
def one(x:Key×Own):ND:=⟨zaB x.1,x.1.length,x.2,1⟩
def zdw(l:List ND):List ND:=(l.filter fun x=> !decide (x.o=noOwn)).map fun x=>⟨x.a,x.n,x.o,1⟩
def prs(l:List ND):List (Key×Own):=(l.filter fun x=> !decide (x.o=noOwn)).map fun x=>(x.key,x.o)
theorem ziX{l:List ND}(hok:∀x∈l,x.OK)(hf:∀x∈l,x.fault=0):zdw l=(prs l).map one:=by
 unfold zdw prs;rw[qcD];refine qcI fun x hx=>?_
 have hx:=(qce.1 hx).1;obtain⟨h1,h2,h3⟩:=ND.keyed (hok x hx).a0 (hok x hx).a1 (hf x hx);simp only[Function.comp,one,←h2,←h3]
theorem zhX{l:List ND}(hok:∀x∈l,x.OK)(hf:∀x∈l,x.fault=0):∀x∈prs l,x.1.length≤32:=by
 intro x hx;unfold prs at hx;obtain⟨y,hy,rfl⟩:=qbv.1 hx;have hy:=(qce.1 hy).1;exact(ND.keyed (hok y hy).a0 (hok y hy).a1 (hf y hy)).1
theorem prs_own{l:List ND}:∀x∈prs l,x.2≠noOwn:=by
 intro x hx;unfold prs at hx;obtain⟨y,hy,rfl⟩:=qbv.1 hx;have:=(qce.1 hy).2;simpa using this
theorem zgc:∀{t:TR},t.short→prs t.list=t.pairs
 | .nil,_=>rfl
 | .nd p o l r,hs=>by
  have e:∀a b:List ND,prs (a++b)=prs a++prs b:=fun a b=>by simp[prs]
  have e1:prs [⟨zaB p,p.length,o,(((l.list++r.list).length+1:Nat):Int)⟩]=ownP p o:=by
   have hk:ND.key ⟨zaB p,p.length,o,(((l.list++r.list).length+1:Nat):Int)⟩=p:=zke p hs.1;unfold prs ownP
   by_cases ho:o=noOwn
   ·simp[ho]
   ·simp only[ho,decide_false,Bool.not_false,qcr,if_true,List.filter_nil,qbu,List.map_nil,if_false];rw[hk]
  rw[TR.list_nd,TR.pairs,←zgc hs.2.1,←zgc hs.2.2,←e1]
  conv=>lhs;rw[←qb3]
  rw[e,e]
theorem TR.list_ok:∀{t:TR},t.short→(∀x∈t.pairs,x.2.size≤140737488351232)→t.list.length≤4611686018427387904→∀x∈t.list,x.OK
 | .nil,_,_,_,x,h=>by cases h
 | .nd p o l r,hs,ho,hz,x,h=>by
  have hpo:o.size≤140737488351232:=by
   by_cases e:o=noOwn
   ·subst e;decide
   ·exact ho (p,o) (by simp[TR.pairs,zdx e])
  rw[TR.list_nd]at h hz;have hz':=hz;simp only[qbE,qbm]at hz';rcases qbA.1 h with rfl|h
  ·obtain⟨b0,b1⟩:=zba p hs.1;have:=hs.1
   constructor<;>simp only[qbm]<;>omega
  ·rcases qbD.1 h with h|h
   ·exact TR.list_ok hs.2.1 (fun x hx=>ho x qaz) qp x h
   ·exact TR.list_ok hs.2.2 (fun x hx=>ho x qaz) qp x h
def isTrie(l:List ND)(t:TR):Prop:=t.valid∧t.short∧l=t.list
theorem TR.pairs_nodup:∀{t:TR},t.valid→(t.pairs.map Prod.fst).Nodup
 | .nil,_=>List.nodup_nil
 | .nd p o l r,hv=>by
  obtain⟨h1,h2,h3,h4,h5⟩:=hv;have i1:=TR.pairs_nodup h1;have i2:=TR.pairs_nodup h2;have bl:∀x∈l.pairs,p++[false]<+:x.1:=TR.pairs_below h1 h3;have br:∀x∈r.pairs,p++[true]<+:x.1:=TR.pairs_below h2 h4;rw[TR.pairs,qbY,qbY];refine List.nodup_append.2 ⟨?_,List.nodup_append.2 ⟨i1,i2,?_⟩,?_⟩
  ·unfold ownP;split<;>simp
  ·intro a ha b hb e;obtain⟨x,hx,rfl⟩:=qbv.1 ha;obtain⟨y,hy,rfl⟩:=qbv.1 hb;have q1:=zcb (bl x hx);have q2:=zcb (br y hy);rw[e,q2]at q1;cases q1
  ·intro a ha b hb e;obtain⟨x,hx,rfl⟩:=qbv.1 ha;obtain⟨rfl,_⟩:=zfh hx;rcases qbD.1 hb with hb|hb
   ·obtain⟨y,hy,rfl⟩:=qbv.1 hb;exact zcS (bl y hy) e.symm
   ·obtain⟨y,hy,rfl⟩:=qbv.1 hb;exact zcS (br y hy) e.symm
theorem TR.short_of:∀{t:TR},t.valid→(∀x∈t.pairs,x.1.length≤32)→t.short
 | .nil,_,_=>trivial
 | .nd p o l r,hv,h=>by
  obtain⟨x,hx⟩:=TR.pairs_ne hv qG;refine⟨qc5 (TR.root_pre hv x hx).length_le (h x hx),TR.short_of hv.1 fun x hx=>h x qaz,TR.short_of hv.2.1 fun x hx=>h x qaz⟩
theorem TR.pairs_short:∀{t:TR},t.short→∀x∈t.pairs,x.1.length≤32
 | .nil,_,x,h=>by cases h
 | .nd p o l r,hs,x,h=>by
  simp only[TR.pairs,qbD]at h;rcases h with h|h|h
  ·obtain⟨rfl,_⟩:=zfh h;exact hs.1
  ·exact TR.pairs_short hs.2.1 x h
  ·exact TR.pairs_short hs.2.2 x h
def zgm(K:List (Key×Own)):List ND:=(zbF K.length K).map toND
theorem zfP{t:TR}{K:List (Key×Own)}(hv:t.valid)(hp:K.Perm t.pairs):zgm K=t.list:=by
 unfold zgm;rw[zfQ hv hp (Nat.le_refl _)];rfl
theorem zg8{l:List ND}(hok:∀x∈l,x.OK)(hf:∀x∈l,x.fault=0):(∃t,isTrie l t)↔((prs l).map Prod.fst).Nodup∧zgm (prs l)=l:=by
 constructor
 ·rintro⟨t,hv,hs,rfl⟩;rw[zgc hs];exact⟨TR.pairs_nodup hv,zfP hv (List.Perm.refl _)⟩
 ·rintro⟨hd,hg⟩;obtain⟨t,hv,hp⟩:=tree_of _ (prs l) (Nat.le_refl _) hd prs_own;refine⟨t,hv,TR.short_of hv fun x hx=>zhX hok hf x (hp.mem_iff.2 hx),?_⟩;rw[←hg];exact zfP hv hp
theorem isTrie_grow{l:List ND}(hok:∀x∈l,x.OK)(hne:l≠[]):(∃t,isTrie l t)↔∃t,zdH l.length l=some (t,[]):=by
 constructor
 ·rintro⟨t,hv,hs,rfl⟩;have:=zfo (t:=t) (n:=t.list.length) (rest:=[]) ⟨hv,hs,fun e=>by subst e;exact hne rfl⟩ (Nat.le_refl _);rw[List.append_nil]at this;exact⟨t,this⟩
 ·rintro⟨t,h⟩;obtain⟨⟨hv,hs,_⟩,hl⟩:=zez hok h;exact⟨t,hv,hs,by simpa using hl⟩
theorem put_short{t:TR}{n:Key}{o:Own}(hv:t.valid)(hs:t.short)(hn:n.length≤32)(ho:o≠noOwn):(t.put n o).short:=
 TR.short_of (TR.put_valid hv ho).1 fun x hx=>by
  have:=(TR.put_pairs (n:=n) (o:=o) hv ho).mem_iff.1 hx;rcases qbA.1 this with rfl|h
  ·exact hn
  ·exact TR.pairs_short hs x ((qce.1 h).1)
theorem zeA{n:Key}:∀(l:List (Key×Own)) (s:Own×Int),zda n s l=s∨∃x∈l,zda n s l=(x.2,(x.1.length:Int))
 | [],s=>.inl rfl
 |x::l,s=>by
  have e:zda n s (x::l)=zda n (if x.1<+:n∧s.2<(x.1.length:Int)then(x.2,(x.1.length:Int))else s) l:=rfl;rw[e]
  by_cases hc:x.1<+:n∧s.2<(x.1.length:Int)
  ·rw[if_pos hc];rcases zeA l (x.2,(x.1.length:Int))with h|⟨y,hy,h⟩
   ·exact .inr ⟨x,qG,h⟩
   ·exact .inr ⟨y,by simp[hy],h⟩
  ·rw[if_neg hc];rcases zeA l s with h|⟨y,hy,h⟩
   ·exact .inl h
   ·exact .inr ⟨y,by simp[hy],h⟩
theorem find_ref{t:TR}(hv:t.valid)(q:Key):(zda q (noOwn, -1) t.pairs).1=t.find q noOwn∧((zda q (noOwn, -1) t.pairs).2<0↔t.find q noOwn=noOwn):=by
 obtain⟨h1,h2,h3⟩:=TR.find_pairs (n:=q) (a:=noOwn) (m:= -1) hv fun x hx=>by omega
 refine⟨h1,?_⟩;rw[←h1]
 constructor
 ·intro h;rw[(h3 (by omega)).1]
 ·intro h;rcases zeA t.pairs (noOwn, -1) (n:=q)with e|⟨x,hx,e⟩
  ·rw[e];decide
  ·rw[e]at h;exact absurd h (TR.pairs_own x hx)
theorem foldR_take{q:Key}{l:List (Key×Own)}{i:Nat}{x:Key×Own}(h:l[i]?=some x)(s:Own×Int):
 zda q s (l.take (i+1))=if x.1<+:q∧(zda q s (l.take i)).2<(x.1.length:Int)then(x.2,(x.1.length:Int))else zda q s (l.take i):=by
 obtain⟨hi,rfl⟩:=qbl.1 h;rw[qbs hi,zgn];rfl
theorem foldR_bd{q:Key}{l:List (Key×Own)}(hl:∀x∈l,x.1.length≤32):∀s:Own×Int, -1≤s.2→s.2≤32→ -1≤(zda q s l).2∧(zda q s l).2≤32:=fun s h1 h2=>by
 rcases zeA l s (n:=q)with e|⟨x,hx,e⟩
 ·rw[e];exact⟨h1,h2⟩
 ·rw[e];have:=hl x hx;exact⟨by simp only;omega,by simp only;omega⟩
theorem rootOwn_take{top:Key}{M:List (Key×Own)}{i:Nat}{x:Key×Own}(h:M[i]?=some x):zdW top (M.take (i+1))=if x.1=top then x.2 else zdW top (M.take i):=by
 obtain⟨hi,rfl⟩:=qbl.1 h;unfold zdW;rw[qbs hi,qcH];rfl
theorem ziJ{top:Key}{b:Bool}{M:List (Key×Own)}{i:Nat}{x:Key×Own}(h:M[i]?=some x):zaR top b (M.take (i+1))=zaR top b (M.take i)++if x.1≠top∧zby x.1 top.length=b then [x]else []:=by
 obtain⟨hi,rfl⟩:=qbl.1 h;unfold zaR;rw[qbs hi,qc1]
 congr 1
 simp only[qcr,List.filter_nil]
 by_cases h1:M[i].1=top<;>by_cases h2:zby M[i].1 top.length=b<;>simp[h1,h2]
theorem joinK_take{p:Key}{M:List (Key×Own)}{i:Nat}{x:Key×Own}(h:M[i]?=some x):zh7 p ((M.take (i+1)).map Prod.fst)=lcpL (zh7 p ((M.take i).map Prod.fst)) x.1:=by
 obtain⟨hi,rfl⟩:=qbl.1 h;unfold zh7;rw[qbs hi,qbY,qcH];rfl
theorem ownedL_take{l:List ND}{i:Nat}{x:ND}(h:l[i]?=some x):zdw (l.take (i+1))=zdw (l.take i)++if x.o≠noOwn then [⟨x.a,x.n,x.o,1⟩]else []:=by
 obtain⟨hi,rfl⟩:=qbl.1 h;unfold zdw;rw[qbs hi,qc1,qbY]
 congr 1
 simp only[qcr,List.filter_nil]
 by_cases h1:l[i].o=noOwn<;>simp[h1]
theorem ziY(l:List ND):(zdw l).length≤l.length:=by
 unfold zdw;rw[List.length_map];exact List.length_filter_le _ _
theorem take_len{α:Type}(l:List α)(i:Nat):(l.take i).length≤l.length:=qad
end Go.Proofs.YtdiljgkijgiboaaGreatDoor
