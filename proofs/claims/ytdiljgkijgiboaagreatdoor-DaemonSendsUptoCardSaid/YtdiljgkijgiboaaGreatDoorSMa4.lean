/- Used. -/
import Derived.Test.YtdiljgkijgiboaaGreatDoorSMa3
import Derived.Lib.Builder
import Derived.Lib.UnsafeStr
import Derived.Laws.Externs
import Derived.LoopN
import Derived.Test.YtdiljgkijgiboaaGreatDoorSTab
set_option linter.all false
set_option maxRecDepth 100000
namespace Go.Proofs.YtdiljgkijgiboaaGreatDoor
open Go.RowKit Go.Sort
section
variable {P:Program}{d:Option Tmp}{ty:TypeId}{pos:String}{af:Array Edge}{g:Option (Nat×Bool)}
theorem zeI{x:Operand}{o off:Nat}:AOp P ⟨d,.nilCheck x,ty,pos,af,g⟩ [.ref o off] [] [] (.ref o off):=
 zaE fun S m w ev hr=>by
  have h:=zco (u:=ev x) hr;have h':=h;simp only[Rep]at h;obtain⟨b,v0,h1,h2,h3⟩:=h;exact⟨.pointer (some ⟨b,off,none⟩),by simp only[execOp,h3,qbx],by rw[←h3];exact h'⟩
theorem zbm{x:Operand}{cs:List PV}:AOp P ⟨d,.nilCheck x,ty,pos,af,g⟩ [.p (.pt cs)] [] [] (.ptr cs):=
 zaE fun S m w ev hr=>by
  have h:=zco (u:=ev x) hr;simp only[Rep,PRep]at h;obtain⟨b,off,vs,h1,h2,h3,h4⟩:=h;exact⟨.pointer (some ⟨b,off,none⟩),by simp only[execOp,h1,qbx],by simp only[Rep];exact⟨b,off,vs,rfl,h2,h3,h4⟩⟩
theorem zcm{x y:Operand}{t e:TypeId}{k len:Nat}{kk:IntKind}{i:Int}{cs ds:List PV}(hu:P.underlying t=some (.array len e))(hi:(P.info? e).map (·.size)=some k)(h0:0≤i)(h1:i<len)(hd:cs.drop (i.toNat*k)=ds):
 AOp P ⟨d,.indexAddr t x y,ty,pos,af,g⟩ [.ptr cs,.p (.v (.int kk i))] [] [] (.ptr ds):=
 zaE fun S m w ev hr=>by
  obtain⟨hx,hy⟩:=zb9 (u:=ev x) (v:=ev y) hr;simp only[Rep]at hx;obtain⟨b,o,vs,h1',h2,h3,h4⟩:=hx;refine⟨.pointer (some ⟨b,o+i.toNat*k,none⟩),by simp[execOp,h1',zbb hy,zg4 hu hi h0 h1],?_⟩;simp only[Rep];refine⟨b,o+i.toNat*k,vs.drop (i.toNat*k),rfl,h2,hd▸h3.drop (i.toNat*k),fun j v hj=>?_⟩;rw[qbF]at hj;rw[qc8];exact h4 _ v hj
theorem zec(op:BinOp)(t:TypeId)(x y:Operand)(a b:Option Addr)(w:World):(eqGuard op t x y (.pointer a) (.pointer b)).run P w=.ok () w:=by
 unfold eqGuard;cases op<;>rfl
section
variable {xt yt:TypeId}{x y:Operand}{e:TypeId}
theorem zgF(w:World)(hu:P.underlying xt=some (.pointer e))(a:Addr):(Op.equal xt (.pointer (some a)) (.pointer none)).run P w=.ok false w:=by
 show(Op.equalIn (9999+1) xt (.pointer (some a)) (.pointer none)).run P w=.ok false w;generalize 9999=d;simp[Op.equalIn,run_underlying hu]
theorem ziN(w:World)(hu:P.underlying xt=some (.pointer e)):(Op.equal xt (.pointer none) (.pointer none)).run P w=.ok true w:=by
 show(Op.equalIn (9999+1) xt (.pointer none) (.pointer none)).run P w=.ok true w;generalize 9999=d;simp[Op.equalIn,run_underlying hu]
theorem run_ptrSame(w:World)(hu:P.underlying xt=some (.pointer e)){k:Nat}(hk:(P.info? e).map (·.size)=some (k+1))(a:Addr):(Op.equal xt (.pointer (some a)) (.pointer (some a))).run P w=.ok true w:=by
 have hs:=zbr (P:=P) hk w;show(Op.equalIn (9999+1) xt (.pointer (some a)) (.pointer (some a))).run P w=.ok true w;generalize 9999=d;simp[Op.equalIn,run_underlying hu,hs,sameAddr]
theorem zkh(hu:P.underlying xt=some (.pointer e)):AOp P ⟨d,.binOp .eql xt x y yt,ty,pos,af,g⟩ [.p (.v (.pointer none)),.p (.v (.pointer none))] [] [] (.p (.v (.bool true))):=
 zcG (zec _ _ _ _ _ _) (fun w=>by simp only[binOp,qbw,ziN w hu,qbr,qbx]) rfl
theorem a_pneNN(hu:P.underlying xt=some (.pointer e)):AOp P ⟨d,.binOp .neq xt x y yt,ty,pos,af,g⟩ [.p (.v (.pointer none)),.p (.v (.pointer none))] [] [] (.p (.v (.bool false))):=
 zcG (zec _ _ _ _ _ _) (fun w=>by simp only[binOp,qbw,ziN w hu,qbr,qbx];rfl) rfl
theorem a_peqRN{o off:Nat}(hu:P.underlying xt=some (.pointer e)):AOp P ⟨d,.binOp .eql xt x y yt,ty,pos,af,g⟩ [.ref o off,.p (.v (.pointer none))] [] [] (.p (.v (.bool false))):=
 zaE fun S m w ev hr=>by
  obtain⟨h1,h2⟩:=zb9 (u:=ev x) (v:=ev y) hr;simp only[Rep]at h1;obtain⟨b,v0,_,_,h3⟩:=h1;exact⟨.bool false,by simp only[execOp,h3,zbb h2,qbw,zec,qbr,binOp,zgF w hu,qbx],za7 rfl⟩
theorem a_peqPN{cs:List PV}(hu:P.underlying xt=some (.pointer e)):AOp P ⟨d,.binOp .eql xt x y yt,ty,pos,af,g⟩ [.p (.pt cs),.p (.v (.pointer none))] [] [] (.p (.v (.bool false))):=
 zaE fun S m w ev hr=>by
  obtain⟨h1,h2⟩:=zb9 (u:=ev x) (v:=ev y) hr;simp only[Rep,PRep]at h1;obtain⟨b,off,vs,h3,_⟩:=h1;exact⟨.bool false,by simp only[execOp,h3,zbb h2,qbw,zec,qbr,binOp,zgF w hu,qbx],za7 rfl⟩
theorem a_pnePN{cs:List PV}(hu:P.underlying xt=some (.pointer e)):AOp P ⟨d,.binOp .neq xt x y yt,ty,pos,af,g⟩ [.p (.pt cs),.p (.v (.pointer none))] [] [] (.p (.v (.bool true))):=
 zaE fun S m w ev hr=>by
  obtain⟨h1,h2⟩:=zb9 (u:=ev x) (v:=ev y) hr;simp only[Rep,PRep]at h1;obtain⟨b,off,vs,h3,_⟩:=h1;exact⟨.bool true,by simp only[execOp,h3,zbb h2,qbw,zec,qbr,binOp,zgF w hu,qbx];rfl,za7 rfl⟩
theorem a_pneRR{o off k:Nat}(hu:P.underlying xt=some (.pointer e))(hk:(P.info? e).map (·.size)=some (k+1)):AOp P ⟨d,.binOp .neq xt x y yt,ty,pos,af,g⟩ [.ref o off,.ref o off] [] [] (.p (.v (.bool false))):=
 zaE fun S m w ev hr=>by
  obtain⟨h1,h2⟩:=zb9 (u:=ev x) (v:=ev y) hr;simp only[Rep]at h1 h2;obtain⟨b,v0,a1,a2,a3⟩:=h1;obtain⟨b',v0',c1,c2,c3⟩:=h2;rw[a1]at c1;cases c1;rw[a2]at c2;cases c2;exact⟨.bool false,by simp only[execOp,a3,c3,qbw,zec,qbr,binOp,run_ptrSame w hu hk,qbx];rfl,za7 rfl⟩
end
theorem zfu{st:St}(ts:List (Nat×AV))(h1:LeT id st [] ts):Re st (St.of ts []):=zai id ts [] h1 trivial rfl
def zh8:Value→Bool
 | .bool _=>true
 |_=>false
theorem guard_slc(op:BinOp)(t:TypeId)(x y:Operand)(a b:Option Addr)(n c m k:Nat)(w:World):(eqGuard op t x y (.slice a n c) (.slice b m k)).run P w=.ok () w:=by
 unfold eqGuard;cases op<;>rfl
section
variable {xt yt:TypeId}{x y:Operand}{e:TypeId}
theorem run_slcNil(w:World)(hu:P.underlying xt=some (.slice e))(a:Option Addr)(n c:Nat):(Op.equal xt (.slice a n c) (.slice none 0 0)).run P w=.ok a.isNone w:=by
 show(Op.equalIn (9999+1) xt (.slice a n c) (.slice none 0 0)).run P w=.ok a.isNone w;generalize 9999=d;cases a<;>simp[Op.equalIn,run_underlying hu]
theorem bin_slcEq(w:World)(hu:P.underlying xt=some (.slice e))(a:Option Addr)(n c:Nat):(binOp .eql xt (.slice a n c) (.slice none 0 0)).run P w=.ok (.bool a.isNone) w:=by
 simp only[binOp,qbw,run_slcNil w hu,qbr,qbx]
theorem exec_slc{op:BinOp}{S:Nat→Prop}{m:Nat→Option Value}{w:World}{ev:Operand→Value}{X R:AV}{f:Option Addr→Bool}(hb:∀a n c,(binOp op xt (.slice a n c) (.slice none 0 0)).run P w=.ok (.bool (f a)) w)
 (hr:RepL S m w [X,.p (.v (.slice none 0 0))] [ev x,ev y]) (k:∀u,Rep S m w X u→∃a n c,u=.slice a n c∧Rep S m w R (.bool (f a))):∃v,(execOp ev ⟨d,.binOp op xt x y yt,ty,pos,af,g⟩).run P w=.ok (.value v) w∧Rep S m w R v:=by
 obtain⟨h1,h2⟩:=zb9 (u:=ev x) (v:=ev y) hr;obtain⟨a,n,c,h3,h4⟩:=k _ h1;exact⟨.bool (f a),by simp only[execOp,h3,zbb h2,qbw,guard_slc,qbr,hb,qbx],h4⟩
theorem rep_sat{S:Nat→Prop}{m:Nat→Option Value}{w:World}{b:Bool}:Rep S m w (.sat zh8) (.bool b):=by simp[Rep,zh8,Value.oneCell']
theorem sl_some{S:Nat→Prop}{m:Nat→Option Value}{w:World}{n size:Nat}{cs:List PV}{u:Value}(hn:0<n)(h:Rep S m w (.p (.sl n size cs)) u):∃a n c,u=.slice (some a) n c:=by
 simp only[Rep,PRep]at h;obtain⟨a,cap,vs,rfl,_,_,_,h5⟩:=h;rcases h5 with h5|⟨b,off,rfl,_⟩
 ·omega
 ·exact⟨_,_,_,rfl⟩
theorem sl_slc{S:Nat→Prop}{m:Nat→Option Value}{w:World}{n size:Nat}{cs:List PV}{u:Value}(h:Rep S m w (.p (.sl n size cs)) u):∃a n c,u=.slice a n c:=by
 simp only[Rep,PRep]at h;obtain⟨a,cap,vs,rfl,_⟩:=h;exact⟨_,_,_,rfl⟩
theorem a_seqS{n size:Nat}{cs:List PV}(hu:P.underlying xt=some (.slice e))(hn:0<n):AOp P ⟨d,.binOp .eql xt x y yt,ty,pos,af,g⟩ [.p (.sl n size cs),.p (.v (.slice none 0 0))] [] [] (.p (.v (.bool false))):=
 zaE fun S m w ev hr=>exec_slc (fun a n c=>bin_slcEq w hu a n c) hr fun u h=>let⟨a,n,c,h⟩:=sl_some hn h;⟨some a,n,c,h,za7 rfl⟩
theorem a_seqX{n size:Nat}{cs:List PV}(hu:P.underlying xt=some (.slice e)):AOp P ⟨d,.binOp .eql xt x y yt,ty,pos,af,g⟩ [.p (.sl n size cs),.p (.v (.slice none 0 0))] [] [] (.sat zh8):=
 zaE fun S m w ev hr=>exec_slc (fun a n c=>bin_slcEq w hu a n c) hr fun u h=>let⟨a,n,c,h⟩:=sl_slc h;⟨a,n,c,h,rep_sat⟩
end
theorem ze5{G:Env}{Q:Exit→St→Prop}{st:St}{c:Operand}{x y:Code}(hc:st.ev c=.sat zh8)(h1:awp G x Q st)(h2:awp G y Q st):awp G (.cond c x y) Q st:=by
 intro a w hs;obtain⟨S,m,hm,hj,ht⟩:=hs.mem;have:=ev_rep ht c;rw[hc]at this;simp only[Rep]at this;have h3:=this.1;cases hv:a.eval c<;>rw[hv]at h3<;>simp only[zh8,qbJ]at h3
 exact wp_cond_split hv (fun _=>h1 a w hs) (fun _=>h2 a w hs)
theorem box_shape{w:World}{b:Nat}{us:List Value}{ty:TypeId}{fz:Nat×Nat}(h:w.heap[b]?=some (.cells us.toArray ty fz)):w.shape? b=some (ty,us.length):=by simp[World.shape?,h]
theorem a_toUnsafe{x:Operand}{src dst t bt:TypeId}{o k:Nat}{c:AV}{cs:List AV}(hs:P.underlying src=some (.pointer t))(hd:P.underlying dst=some .unsafePointer)(hk:(P.info? t).map (·.size)=some (k+1)):
 AOp P ⟨d,.convert src dst x,ty,pos,af,g⟩ [.ref o 0] [(o,.live (.box bt (c::cs)))] [] (.ref o 0):=
 zbQ fun w0 A S m heap w ev hm hR hrd=>by
  have ho:heap o=.live (.box bt (c::cs)):=rd1 hrd;have hx:=zco (u:=ev x) hR;have hx':=hx;simp only[Rep]at hx;obtain⟨b,v0,h1,h2,h3⟩:=hx;obtain⟨v,k1,k2,_⟩:=hm.live o _ ho;rw[h1]at k1;cases k1;obtain⟨b',us,rfl,_,j1,_,j3⟩:=k2;obtain rfl:b'=b:=qa4;have hl:=j1.length;cases hq:P.info? t with
  |none=>simp[hq]at hk
  |some j=>
   have hj:j.size=k+1:=by simpa[hq]using hk
   have:=Lib.run_to_unsafe (P:=P) w ⟨b',0,none⟩ hs hd hq qp (box_shape j3) (by rw[hl];simp);exact⟨.pointer (some ⟨b',0,none⟩),by simp only[execOp,h3,this,qbw,qbr,qbx],by rw[←h3];exact hx'⟩
theorem a_fromUnsafe{x:Operand}{src dst u bt:TypeId}{o k:Nat}{cs:List AV}(hs:P.underlying src=some .unsafePointer)(hd:P.underlying dst=some (.pointer u))(hk:(P.info? u).map (·.size)=some k)(hl:liesAt P P.depth bt (cs.length/P.cellsOf bt) 0 u 1=true):
 AOp P ⟨d,.convert src dst x,ty,pos,af,g⟩ [.ref o 0] [(o,.live (.box bt cs))] [] (.ref o 0):=
 zbQ fun w0 A S m heap w ev hm hR hrd=>by
  have ho:heap o=.live (.box bt cs):=rd1 hrd;have hx:=zco (u:=ev x) hR;have hx':=hx;simp only[Rep]at hx;obtain⟨b,v0,h1,h2,h3⟩:=hx;obtain⟨v,k1,k2,_⟩:=hm.live o _ ho;rw[h1]at k1;cases k1;obtain⟨b',us,rfl,_,j1,_,j3⟩:=k2;obtain rfl:b'=b:=qa4;have hlen:=j1.length;cases hq:P.info? u with
  |none=>simp[hq]at hk
  |some j=>
   have:=Lib.run_from_unsafe (P:=P) w ⟨b',0,none⟩ hs hd hq (box_shape j3) (by rw[hlen];exact hl);exact⟨.pointer (some ⟨b',0,none⟩),by simp only[execOp,h3,this,qbw,qbr,qbx],by rw[←h3];exact hx'⟩
theorem a_noEscape{x y:Operand}{ts:Array TypeId}{f:FuncId}{fn:Func}{X:AV}(hf:P.funcs[f]?=some fn)(hname:(fn.name== "runtime.NumGoroutine")=false)(hb:fn.body.isNone=true)(hn:Extern.findNext fn=none)(he:Extern.find fn=some Extern.AbiNoEscape.same):
 AOp P ⟨d,.call {callee:=.value x,args:= #[y],argTypes:=ts},ty,pos,af,g⟩ [.fn f [],X] [] [] X:=
 zaE fun S m w ev hr=>by
  have hr':RepL S m w [.fn f [],X] [ev x,ev y]:=qaC;simp only[RepL,Rep]at hr';obtain⟨u,vs,h1,⟨us,h2,h3⟩,v,vs',h4,h5,h6⟩:=hr';subst h6 h4 h3;simp only[List.cons.injEq,and_true]at h1;obtain⟨rfl,rfl⟩:=h1;refine⟨ev y,?_,h5⟩;simp only[execOp,resolve,h2,Deferred.ofValue,invoke,qbw,qbx,qbr];have:=run_callFunc_extern (P:=P) hf hname hb hn he #[ev y] w;rw[Lib.run_noEscape]at this;simpa using this
theorem a_sdNil{x:Operand}{ts:Array TypeId}:AOp P ⟨d,.call {callee:=.builtin .unsafeSliceData,args:= #[x],argTypes:=ts},ty,pos,af,g⟩ [.p (.v (.slice none 0 0))] [] [] (.p (.v (.pointer none))):=
 zaE fun S m w ev hr=>by
  have h:=zbb (zco (x:=.p (.v (.slice none 0 0))) (u:=ev x) qaC);exact⟨.pointer none,by simp[execOp,resolve,invoke,builtin,h,Lib.run_unsafeSliceData_nil],za7 rfl⟩
theorem a_sdRow{x:Operand}{ts:Array TypeId}{o n size:Nat}{e:TypeId}{cs:List PV}(hn:0<n):AOp P ⟨d,.call {callee:=.builtin .unsafeSliceData,args:= #[x],argTypes:=ts},ty,pos,af,g⟩ [.row o] [(o,.live (.row e size n cs))] [] (.ref o 0):=
 zbQ fun w0 A S m heap w ev hm hR hrd=>by
  have ho:heap o=.live (.row e size n cs):=rd1 hrd;have hx:=zco (x:=.row o) (u:=ev x) (by simpa[Op.operands,Call.operands]using hR);simp only[Rep]at hx;obtain⟨hx,_⟩:=hx;obtain⟨v,k1,k2,_⟩:=hm.live o _ ho;rw[hx]at k1;obtain rfl:=Option.some.inj k1;obtain⟨us,j1,j2,j3⟩:=k2;rcases j3 with⟨_,h0⟩|⟨b',cap,cur,fz,hv,g1,g2,g3,g4,g5,g6,g7⟩
  ·omega
  ·refine⟨.pointer (some ⟨b',0,none⟩),by simp[execOp,resolve,invoke,builtin,hv,Lib.run_unsafeSliceData_row (P:=P) w ts ty ⟨b',0,none⟩ n cap (by omega)],?_⟩;simp only[Rep];exact⟨b',ev x,hx,by rw[hv];rfl,rfl⟩
theorem a_usNil{x y:Operand}{t1 t2:TypeId}:AOp P ⟨d,.call {callee:=.builtin .unsafeString,args:= #[x,y],argTypes:= #[t1,t2]},ty,pos,af,g⟩ [.p (.v (.pointer none)),.p (.v (.int .i64 0))] [] [] (.p (.v (.string ⟨#[]⟩))):=
 zaE fun S m w ev hr=>by
  obtain⟨h1,h2⟩:=zb9 (x:=.p (.v (.pointer none))) (y:=.p (.v (.int .i64 0))) (u:=ev x) (v:=ev y) qaC;exact⟨.string ⟨#[]⟩,by simp[execOp,resolve,invoke,builtin,zbb h1,zbb h2,Lib.run_unsafeString_none (P:=P) w t1 t2 ty none];rfl,za7 rfl⟩
theorem a_usRow{x y:Operand}{t1 t2 e:TypeId}{o n:Nat}{xs:List Int}(hp:P.underlying t1=some (.pointer e))(hc:P.cellsOf e=1)(hn:0<n)(hB:isB xs):
 AOp P ⟨d,.call {callee:=.builtin .unsafeString,args:= #[x,y],argTypes:= #[t1,t2]},ty,pos,af,g⟩ [.ref o 0,.p (.v (.int .i64 n))] [(o,.live (.row e 1 n (bs xs)))] [(o,.dead)] (.p (.v (.string (strOfNums xs)))):=by
 intro w0 A S m heap w ev hm hR hrd;have ho:heap o=.live (.row e 1 n (bs xs)):=rd1 hrd;obtain⟨h1,h2⟩:=zb9 (x:=.ref o 0) (y:=.p (.v (.int .i64 n))) (u:=ev x) (v:=ev y) (by simpa[Op.operands,Call.operands]using hR);simp only[Rep]at h1;obtain⟨b,v0,a1,a2,a3⟩:=h1;obtain⟨v,k1,k2,k3⟩:=hm.live o _ ho;rw[a1]at k1;obtain rfl:=Option.some.inj k1;obtain⟨us,j1,j2,j3⟩:=k2;have hus:=bs_rep j1;rw[qbU]at j2;have hxl:xs.length=n:=by rw[←j2,hus];simp
 rcases j3 with⟨rfl,h0⟩|⟨b',cap,cur,fz,hv,g1,g2,g3,g4,g5,g6,g7⟩
 ·omega
 obtain rfl:b'=b:=by rw[hv]at a2;simpa[blk]using a2
 rw[qbU]at g6 g7;have hl8:(xs.map fun z=>UInt8.ofNat z.toNat).length=n:=by simp[hxl]
 have hrun:=Lib.run_unsafeString_row (P:=P) w t1 t2 ty e hp hc b' cur.size (by simp[World.shape?,g2]) (xs.map fun z=>UInt8.ofNat z.toNat) (by intro h;rw[h]at hl8;simp at hl8;omega) (by rw[hl8];omega) (by rw[hl8];simp only[maxLen]at g5;omega) (by
  intro j z hj;rw[qbM]at hj;cases hxj:xs[j]? with
  |none=>simp[hxj]at hj
  |some q=>
   simp only[hxj,qcx,Option.some.injEq]at hj;have hq:=hB q (qbo hxj);have hjn:j<n:=by rw[←hxl];exact(qbl.1 hxj).1
   have hcur:cur[j]?=some (.int .u8 q):=by
    have:us[j]?=some (.int .u8 q):=by rw[hus,qbM,hxj];rfl
    rw[←g7,List.getElem?_take_of_lt hjn]at this;simpa using this
   have hz:(z.toNat:Int)=q:=by
    rw[←hj,UInt8.toNat_ofNat'];omega
   rw[show(⟨b',0,none⟩:Addr).add j=⟨b',j,none⟩by(simp[Addr.add];omega),cell_of_row w b' j cur e fz g2,hcur,hz])
 rw[hl8]at hrun
 have hex:(execOp ev ⟨d,.call {callee:=.builtin .unsafeString,args:= #[x,y],argTypes:= #[t1,t2]},ty,pos,af,g⟩).run P w=.ok (.value (.string (strOfNums xs))) (w.freeze ⟨b',0,none⟩ n):=by
  simp[execOp,resolve,invoke,builtin,a3,zbb h2,hrun];rfl
 unfold Out;rw[hex]
 obtain⟨fz',hw⟩:∃fz',w.freeze ⟨b',0,none⟩ n={w with heap:=w.heap.modify b' fun _=>.cells cur e fz'}:=by
  refine⟨if fz.1==fz.2 then(0,0+n)else(min fz.1 0,max fz.2 (0+n)),?_⟩;unfold World.freeze;rw[if_neg (by omega)]
  congr 1
  apply Array.ext qG;intro i h1 h2;simp only[Array.getElem_modify]
  split
  ·rename_i e1;subst e1
   have:w.heap[b']'qaR=.cells cur e fz:=by
    have hlt:b'<w.heap.size:=qaR;rw[qct hlt]at g2;exact Option.some.inj g2
   rw[this]
  ·rfl
 rw[hw]
 have q5:∀k,k≠b'→(w.heap.modify b' fun _=>Obj.cells cur e fz')[k]?=w.heap[k]?:=fun k hk=>by
  rw[Array.getElem?_modify,if_neg (Ne.symm hk)]
 have hbS:=k3 b' a2;have hgr:Grow S m w S m {w with heap:=w.heap.modify b' fun _=>.cells cur e fz'}:=⟨fun _ h=>h,fun c hS=>q5 c (fun e=>hbS (e▸hS)),fun _ _ h=>h⟩;have hbw:Below w0.heap.size w {w with heap:=w.heap.modify b' fun _=>.cells cur e fz'}:=⟨rfl,rfl,rfl,qG,fun k hk=>q5 k qp⟩;refine⟨S,m,za7 rfl,⟨hm.bel.trans hbw,hm.sA,fun c h=>by have:=hm.sW c h;simpa using this,fun o' ho'=>?_,fun o' ob2 ho'=>?_,fun o1 o2 ob1 ob2 v1 v2 c h1 h2 h3 h4 h5 h6=>?_,hm.gl⟩,hgr⟩
 ·by_cases e1:o'=o
  ·subst e1;simp[updL]at ho'
  ·simp only[updL,nbeq e1,cond_false]at ho';exact hm.un o' ho'
 ·by_cases e1:o'=o
  ·subst e1;simp[updL]at ho'
  ·simp only[updL,nbeq e1,cond_false]at ho';obtain⟨u,i1,i2,i3⟩:=hm.live o' ob2 ho';exact⟨u,i1,i2.mono hgr fun c hc'=>q5 c (fun eb=>by subst eb;exact e1 (hm.inj _ _ _ _ _ _ _ ho' ho i1 a1 hc' a2)),i3⟩
 ·have key:∀{z:Nat} {obz:AObj},updL heap [(o,.dead)] z=.live obz→heap z=.live obz:=by
   intro z obz hz
   by_cases e1:z=o
   ·subst e1;simp[updL]at hz
   ·simpa only[updL,nbeq e1,cond_false]using hz
  exact hm.inj _ _ _ _ _ _ _ (key h1) (key h2) h3 h4 h5 h6
end
section
variable {P:Program}{d:Option Tmp}{ty:TypeId}{pos:String}{af:Array Edge}{g:Option (Nat×Bool)}{xt yt:TypeId}{x y:Operand}
theorem a_eqlT{k:IntKind}{a:Int}:AOp P ⟨d,.binOp .eql xt x y yt,ty,pos,af,g⟩ [.p (.v (.int k a)),.p (.v (.int k a))] [] [] (.p (.v (.bool true))):=by
 have h:AOp P ⟨d,.binOp .eql xt x y yt,ty,pos,af,g⟩ [.p (.v (.int k a)),.p (.v (.int k a))] [] [] (.p (.v (.bool (a==a)))):=a_eql
 rwa [beq_self_eq_true]at h
theorem zjj{k:IntKind}{a:Int}:AOp P ⟨d,.binOp .neq xt x y yt,ty,pos,af,g⟩ [.p (.v (.int k a)),.p (.v (.int k a))] [] [] (.p (.v (.bool false))):=by
 have h:AOp P ⟨d,.binOp .neq xt x y yt,ty,pos,af,g⟩ [.p (.v (.int k a)),.p (.v (.int k a))] [] [] (.p (.v (.bool (a != a)))):=ziw
 rwa [bne_self_eq_false]at h
theorem a_seqlT{s:ByteArray}:AOp P ⟨d,.binOp .eql xt x y yt,ty,pos,af,g⟩ [.p (.v (.string s)),.p (.v (.string s))] [] [] (.p (.v (.bool true))):=by
 have h:AOp P ⟨d,.binOp .eql xt x y yt,ty,pos,af,g⟩ [.p (.v (.string s)),.p (.v (.string s))] [] [] (.p (.v (.bool (decide (s=s))))):=zji
 rwa [decide_eq_true rfl]at h
theorem a_sneqT{s:ByteArray}:AOp P ⟨d,.binOp .neq xt x y yt,ty,pos,af,g⟩ [.p (.v (.string s)),.p (.v (.string s))] [] [] (.p (.v (.bool false))):=by
 have h:AOp P ⟨d,.binOp .neq xt x y yt,ty,pos,af,g⟩ [.p (.v (.string s)),.p (.v (.string s))] [] [] (.p (.v (.bool (!decide (s=s))))):=a_sneq
 rwa [decide_eq_true rfl]at h
theorem a_steqT{cs:List AV}{xs:List Value}{fs:Array Field}(hu:P.underlying xt=some (.struct fs))(hx:zcA cs=some xs)(hg:P.eqGuardType P.depth xt=false)(h1:okS P 20 xt xs=true):AOp P ⟨d,.binOp .eql xt x y yt,ty,pos,af,g⟩ [.agg cs,.agg cs] [] [] (.p (.v (.bool true))):=by
 have h:=zeH (d:=d) (ty:=ty) (pos:=pos) (af:=af) (g:=g) (yt:=yt) (x:=x) (y:=y) hu hx hx hg h1 h1
 rwa [eqL_refl]at h
theorem a_pickT{c a b:Operand}{X Y:AV}:AOp P ⟨d,.pick c a b,ty,pos,af,g⟩ [.p (.v (.bool true)),X,Y] [] [] X:=
 zaE fun S m w ev hr=>by
  obtain⟨k1,k2,k3⟩:=ziy (u:=ev c) (v:=ev a) (t:=ev b) hr;exact⟨_,by simp[execOp,zbb k1,asBool],k2⟩
theorem a_pickF{c a b:Operand}{X Y:AV}:AOp P ⟨d,.pick c a b,ty,pos,af,g⟩ [.p (.v (.bool false)),X,Y] [] [] Y:=
 zaE fun S m w ev hr=>by
  obtain⟨k1,k2,k3⟩:=ziy (u:=ev c) (v:=ev a) (t:=ev b) hr;exact⟨_,by simp[execOp,zbb k1,asBool],k3⟩
theorem a_smin{x y:Operand}{ts:Array TypeId}{s t:ByteArray}:AOp P ⟨d,.call {callee:=.builtin .min,args:= #[x,y],argTypes:=ts},ty,pos,af,g⟩ [.p (.v (.string s)),.p (.v (.string t))] [] [] (.p (.v (.string (if sLt s t||decide (s=t)then s else t)))):=
 zaE fun S m w ev hr=>by
  obtain⟨h1,h2⟩:=zb9 (u:=ev x) (v:=ev y) hr;refine⟨_,?_,za7 rfl⟩;simp only[execOp,resolve,invoke,builtin,Builtin.min_];simp[Builtin.min2,Op.stringOp,sLt,asBool,zbb h1,zbb h2,←zfC]
theorem a_smax{x y:Operand}{ts:Array TypeId}{s t:ByteArray}:AOp P ⟨d,.call {callee:=.builtin .max,args:= #[x,y],argTypes:=ts},ty,pos,af,g⟩ [.p (.v (.string s)),.p (.v (.string t))] [] [] (.p (.v (.string (if !sLt s t then s else t)))):=
 zaE fun S m w ev hr=>by
  obtain⟨h1,h2⟩:=zb9 (u:=ev x) (v:=ev y) hr;refine⟨_,?_,za7 rfl⟩;simp only[execOp,resolve,invoke,builtin,Builtin.max_];simp[Builtin.max2,Op.stringOp,sLt,asBool,zbb h1,zbb h2]
end
theorem zbl{P:Program}{d:Option Tmp}{ty:TypeId}{pos:String}{af:Array Edge}{g:Option (Nat×Bool)}{x:Operand}{args:Array Operand}{ts:Array TypeId}{f:FuncId}{fn:Func}{xs cs:List AV}{res:AV}(hf:P.funcs[f]?=some fn)(hb:fn.body.isNone=false)(hn:(fn.name== "runtime.NumGoroutine")=false)
 (hC:Fn P f (xs++cs) res []) (h1:AV.okInL [] (xs++cs)=true) (h3:res.okIn []=true):
 AOp P ⟨d,.call {callee:=.value x,args:=args,argTypes:=ts},ty,pos,af,g⟩ (.fn f cs::xs) [] [] res:=by
 have h:=a_callS (P:=P) (d:=d) (ty:=ty) (pos:=pos) (af:=af) (g:=g) (x:=x) (args:=args) (ts:=ts) (fun o=>o) hf hb hn hC h1 h3 rfl rfl;rw[ren_id]at h;exact h
theorem less_not:∀{x y:List UInt8},x≠y→Op.bytesLess y x= !Op.bytesLess x y
 | [],[],h=>absurd rfl h
 | [],b::y,_=>rfl
 |a::x,[],_=>rfl
 |a::x,b::y,h=>by
  simp only[Op.bytesLess]
  by_cases e:a=b
  ·subst e;have h2:x≠y:=fun e=>h (by rw[e])
   have hl:¬a<a:=UInt8.lt_irrefl a;simp[hl,less_not h2]
  ·rcases UInt8.lt_or_lt_of_ne e with hl|hl
   ·have hn:¬b<a:=fun k=>absurd (UInt8.lt_trans hl k) (UInt8.lt_irrefl a)
    simp[hl,hn,Ne.symm e]
   ·have hn:¬a<b:=fun k=>absurd (UInt8.lt_trans hl k) (UInt8.lt_irrefl b)
    simp[hl,hn,e]
theorem sLt_not{s t:ByteArray}(h:s≠t):sLt t s= !sLt s t:=by
 refine less_not fun e=>h ?_
 rw[ByteArray.toList_eq,ByteArray.toList_eq]at e;cases s;cases t
 congr 1
 exact Array.toList_inj.1 e
theorem zb3{P:Program}{w0:World}{A:Ctx1}{nt:Nat}{c d:Code}{Q:Exit→St→Prop}{st:St}(st1:St)(h:awp ⟨P,w0,ctx0 A,nt⟩ c (Thn (fun st'=>Re st' st1) Q) st)(k:awp ⟨P,w0,ctx0 A,nt⟩ d Q st1):awp ⟨P,w0,ctx0 A,nt⟩ c (Thn (awp ⟨P,w0,ctx0 A,nt⟩ d Q) Q) st:=
 zgw h fun e st' hq=>by
  cases e with
  |normal=>exact za3 hq k
  |_=>exact hq
def structTs(P:Program)(t:Nat):Option (List TypeId):=match P.underlying t with
 |some (.struct fs)=>some (fs.toList.map (·.type))
 |_=>none
def TyL(P:Program)(n:Nat):List TypeId→List (List PV)→Prop
 | [],L=>L=[]
 |t::ts,L=>∃x L',L=x::L'∧Ty P n t x∧TyL P n ts L'
theorem tyL_mk{P:Program}{n:Nat}:∀{fs:List Field} {L:List (List PV)},L.length=fs.length→(∀(i:Nat) (f:Field) x,fs[i]?=some f→L[i]?=some x→Ty P n f.type x∧x.length=P.cellsOf f.type)→TyL P n (fs.map (·.type)) L
 | [],[],_,_=>rfl
 | [],_::_,h,_=>by simp at h
 |_::_,[],h,_=>by simp at h
 |f::fs,x::L,h,k=>by
  refine⟨x,L,rfl,(k 0 f x qG qG).1,tyL_mk qB fun i f' x' h1 h2=>k (i+1) f' x' qaR (by simpa using h2)⟩
theorem zbu{P:Program}{n t:Nat}{ts:List TypeId}{ps:List PV}(hu:structTs P t=some ts)(hT:Ty P (n+1) t ps):∃L:List (List PV),ps=L.flatten∧TyL P n ts L:=by
 unfold structTs at hu;unfold Ty at hT;cases hq:P.underlying t with
 |none=>simp[hq]at hu
 |some u=>
  simp only[hq]at hu hT;cases u<;>simp at hu
  rename_i fs;obtain⟨L,rfl,hl,hL⟩:=hT;subst hu;exact⟨L,rfl,tyL_mk qaQ fun i f x h1 h2=>hL i f x qaR h2⟩
def zg0:List AV→Option (List Value)
 | []=>some []
 | .p (.v x)::l=>(zg0 l).map (x:: ·)
 | .agg cs::l=>(zcA cs).bind fun xs=>(zg0 l).map (.agg xs.toArray:: ·)
 |_::_=>none
theorem ze6{S:Nat→Prop}{m:Nat→Option Value}{w:World}:∀{cs:List AV} {xs us:List Value},zg0 cs=some xs→RepL S m w cs us→us=xs
 | [],xs,us,h,hr=>by
  simp only[zg0,Option.some.injEq]at h;simp only[RepL]at hr;rw[hr,←h]
 |c::cs,xs,us,h,hr=>by
  simp only[RepL]at hr;obtain⟨u,us,rfl,h2,h3⟩:=hr;cases c with
  |p x=>
   cases x with
   |v x=>
    simp only[zg0]at h;cases hq:zg0 cs with
    |none=>simp[hq]at h
    |some zs=>
     simp only[hq,qcx,Option.some.injEq]at h;rw[zbb h2,ze6 hq h3,h]
   |_=>simp[zg0]at h
  |agg ds=>
   simp only[zg0]at h;cases hv:zcA ds with
   |none=>simp[hv]at h
   |some vs=>
    cases hq:zg0 cs with
    |none=>simp[hv,hq]at h
    |some zs=>
     simp only[hv,hq,qcX,qcx,Option.some.injEq]at h;simp only[Rep]at h2;obtain⟨ws,e1,e2,_⟩:=h2;rw[zd1 hv e2]at e1;rw[e1,ze6 hq h3,h]
  |_=>simp[zg0]at h
theorem zgo{P:Program}{f:FuncId}{args:List AV}{vs:List Value}{res:AV}{r:Value}(ha:zg0 args=some vs)(hr:∀S m w,Rep S m w res r)(h:Gives P f vs.toArray r):Fn P f args res []:=by
 intro w A us hA hG hus;rw[ze6 ha hus];refine(h w).mono ?_;rintro e w' ⟨rfl,hb⟩;exact⟨r,rfl,A,fun _=>none,hr _ _ _,hb,fun b hb=>.inl hb,fun b h=>qca (hA b h) hb.size,fun o _=>rfl,fun o ob ho=>qaN,fun o o' ob ob' v v' b ho=>qaN,hG⟩
def zkk(G:Env)(c:Code)(Q:Exit→St→Prop):Nat→St→Prop
 |0,_=>False
 |n+1,st=>awp G c (Thn (zkk G c Q n) Q) st
theorem zhg{G:Env}{c:Code}{Q:Exit→St→Prop}{n:Nat}{st:St}(h:awp G c (Thn (zkk G c Q n) Q) st):zkk G c Q (n+1) st:=h
theorem ze3{G:Env}{c:Code}{Q:Exit→St→Prop}{st:St}(n:Nat)(h:zkk G c Q n st):awp G (.loop c) Q st:=by
 intro a w hs;refine wp_loop_rounds n ?_
 revert h hs
 induction n generalizing st a w with
 |zero=>intro h;exact h.elim
 |succ n ih=>
  intro h hs;refine wp_mono (h a w hs) ?_;rintro e a' w' ⟨st',h1,h2⟩;cases e
  case normal=>exact ih a' w' h1 h2
  all_goals exact⟨st',h1,h2⟩
theorem awp_join3{P:Program}{w0:World}{A:Ctx1}{nt:Nat}{c:Code}{Q:Exit→St→Prop}{st:St}(st1:St)(h:awp ⟨P,w0,ctx0 A,nt⟩ c (Thn (fun st'=>Re st' st1) Q) st)(k:∀st',Re st' st1→Q .normal st'):awp ⟨P,w0,ctx0 A,nt⟩ c Q st:=
 zgw h fun e st' he=>by
  cases e
  case normal=>exact k st' he
  all_goals exact he
theorem zbR{P:Program}{ops:Array Oper}{K:List Foot→St→Prop}{o:Oper}{l:List Oper}{fs:List Foot}{st:St}(hg:zaJ ops o st=some false)(k:ARun P ops K l (fs++[([],[])]) (st.put o.dst (.mb false (.p (.v (.bool false)))))):ARun P ops K (o::l) fs st:=
 ⟨([],[]),_,.skip _ _ hg (fun _ _ _=>by simp[Rep]),k⟩
section
variable {P:Program}{ops:Array Oper}{K:List Foot→St→Prop}{l:List Oper}{fs:List Foot}{st:St}{d:Option Tmp}{ty:TypeId}{pos:String}{af:Array Edge}{g:Option (Nat×Bool)}{x:Operand}
theorem mP{v:PV}(hx:(⟨d,.move x,ty,pos,af,g⟩:Oper).op.operands.toList.map st.ev=[.p v])(hg:zaJ ops ⟨d,.move x,ty,pos,af,g⟩ st=some true)
 (k:ARun P ops K l (fs++[([],[])]) (st.put d (.p v))):ARun P ops K (⟨d,.move x,ty,pos,af,g⟩::l) fs st:=zaa zah hx hg k
theorem aP{v:PV}(hx:(⟨d,.assign x,ty,pos,af,g⟩:Oper).op.operands.toList.map st.ev=[.p v])(hg:zaJ ops ⟨d,.assign x,ty,pos,af,g⟩ st=some true)
 (k:ARun P ops K l (fs++[([],[])]) (st.put d (.p v))):ARun P ops K (⟨d,.assign x,ty,pos,af,g⟩::l) fs st:=zaa zaG hx hg k
theorem fA{s:TypeId}{f off k o p:Nat}(h:zaS P s f=some (off,k+1))(hx:(⟨d,.fieldAddr s x f,ty,pos,af,g⟩:Oper).op.operands.toList.map st.ev=[.ref o p])(hg:zaJ ops ⟨d,.fieldAddr s x f,ty,pos,af,g⟩ st=some true)
 (n:ARun P ops K l (fs++[([],[])]) (st.put d (.ref o (p+off)))):ARun P ops K (⟨d,.fieldAddr s x f,ty,pos,af,g⟩::l) fs st:=zaa (zaC h rfl) hx hg n
theorem l1{t bt:TypeId}{ds:TypeDesc}{o off:Nat}{cs:List AV}{r:AV}(hu:P.underlying t=some ds)(hd:ds.isRow=false)(hx:(⟨d,.load t x,ty,pos,af,g⟩:Oper).op.operands.toList.map st.ev=[.ref o off])(hg:zaJ ops ⟨d,.load t x,ty,pos,af,g⟩ st=some true)
 (hr:Rds st [(o,.live (.box bt cs))]) (k:ARun P ops K l (fs++[([o],[])]) (st.put d r)) (h:cs[off]?=some r:=by first|rfl|assumption):ARun P ops K (⟨d,.load t x,ty,pos,af,g⟩::l) fs st:=
 zab (zcz hu hd h) hx hg hr k
theorem lN{t bt:TypeId}{ds:TypeDesc}{o off m:Nat}{cs es:List AV}(hu:P.underlying t=some ds)(hd:ds.isRow=true)(hi:(P.info? t).map (·.size)=some m)(hx:(⟨d,.load t x,ty,pos,af,g⟩:Oper).op.operands.toList.map st.ev=[.ref o off])(hg:zaJ ops ⟨d,.load t x,ty,pos,af,g⟩ st=some true)
 (hr:Rds st [(o,.live (.box bt cs))]) (k:ARun P ops K l (fs++[([o],[])]) (st.put d (.agg es))) (hk:off+m≤cs.length:=by first|exact qbk rfl|omega|(simp only[AV.cells,List.length_map];omega)) (h:(cs.drop off).take m=es:=by first|exact zcX qK|(simp only[qb5,qcb,qcg,qcc];rfl)|rfl):ARun P ops K (⟨d,.load t x,ty,pos,af,g⟩::l) fs st:=
 zab (zak hu hd hi hk h) hx hg hr k
theorem mb2{o:Oper}{xs':List AV}{rds:List (Nat×Slot)}{r:AV}(b:Bool)(hg:zaJ ops o st=some b)(hx:(o.op.operands.toList.map st.ev).map AV.strip=xs')
 (h:b=true→AOp P o xs' rds [] r) (hr:b=true→Rds st rds) (k:ARun P ops K l (fs++[(rds.map Prod.fst,[])]) (st.put o.dst (.mb b r)))
 (hs:StripOK b (o.op.operands.toList.map st.ev):=by(repeat(first|exact zem|refine zcB id ?_|refine stripOK_p ?_|refine zhM ?_|refine zhL ?_|refine zhN ?_|refine zhO ?_|refine zcB (by simp_all) ?_|refine StripOK.plain _ _ rfl ?_))):ARun P ops K (o::l) fs st:=r_mb2 b hg hx hs h hr k
theorem tx{w0:World}{A:Ctx}{nt:Nat}{Q:Exit→St→Prop}{id:Nat}(h:ARun P l.toArray (fun _ st'=>Q .normal st') l [] st)(hd:dstOK nt l=true:=by kernel_rfl):awp ⟨P,w0,A,nt⟩ (.region id l.toArray false) Q st:=zaN hd h
theorem fT{rs:List ResultVar}{res:AV}{news:List (Nat×AObj)}{e:Exit}{vals:List AV}(ρ:Nat→Nat)(h:ResIs P st rs vals)(hv:(oneA vals).view (zgj ρ news) st.heap=res.ren ρ)(ho:LeO ρ st (news.map Prod.fst) news)
 (he:e=.normal∨e=.ret:=by first|exact .inl rfl|exact .inr rfl) (hk:res.okIn (news.map Prod.fst)=true:=by exact rfl) (hn:zbL (news.map fun p=>ρ p.1)=true:=by exact rfl):Fin P rs res news e st:=
 ⟨he,vals,ρ,h,hv,hk,ho,hn⟩
end
section
variable {P:Program}{d:Option Tmp}{ty:TypeId}{pos:String}{af:Array Edge}{g:Option (Nat×Bool)}{xt yt:TypeId}{x y:Operand}{k:IntKind}{a b:Int}{c:Bool}
theorem a_gtrV(h:decide (b<a)=c):AOp P ⟨d,.binOp .gtr xt x y yt,ty,pos,af,g⟩ [.p (.v (.int k a)),.p (.v (.int k b))] [] [] (.p (.v (.bool c))):=
 zcG (zbj _ _ _ _ _ _ _ _) (fun w=>by subst h;simp[binOp,Op.intCmp]) rfl
theorem a_lssV(h:decide (a<b)=c):AOp P ⟨d,.binOp .lss xt x y yt,ty,pos,af,g⟩ [.p (.v (.int k a)),.p (.v (.int k b))] [] [] (.p (.v (.bool c))):=
 zcG (zbj _ _ _ _ _ _ _ _) (fun w=>by subst h;simp[binOp,Op.intCmp]) rfl
theorem a_leqV(h:decide (a≤b)=c):AOp P ⟨d,.binOp .leq xt x y yt,ty,pos,af,g⟩ [.p (.v (.int k a)),.p (.v (.int k b))] [] [] (.p (.v (.bool c))):=
 zcG (zbj _ _ _ _ _ _ _ _) (fun w=>by subst h;simp[binOp,Op.intCmp]) rfl
theorem a_geqV(h:decide (b≤a)=c):AOp P ⟨d,.binOp .geq xt x y yt,ty,pos,af,g⟩ [.p (.v (.int k a)),.p (.v (.int k b))] [] [] (.p (.v (.bool c))):=
 zcG (zbj _ _ _ _ _ _ _ _) (fun w=>by subst h;simp[binOp,Op.intCmp]) rfl
theorem a_eqlV(h:(a==b)=c):AOp P ⟨d,.binOp .eql xt x y yt,ty,pos,af,g⟩ [.p (.v (.int k a)),.p (.v (.int k b))] [] [] (.p (.v (.bool c))):=
 zcG (zbj _ _ _ _ _ _ _ _) (fun w=>by subst h;simp[binOp,Op.intCmp]) rfl
theorem a_neqV(h:(a != b)=c):AOp P ⟨d,.binOp .neq xt x y yt,ty,pos,af,g⟩ [.p (.v (.int k a)),.p (.v (.int k b))] [] [] (.p (.v (.bool c))):=
 zcG (zbj _ _ _ _ _ _ _ _) (fun w=>by subst h;simp[binOp,Op.intCmp]) rfl
theorem za2{s t:ByteArray}(h:decide (s=t)=c):AOp P ⟨d,.binOp .eql xt x y yt,ty,pos,af,g⟩ [.p (.v (.string s)),.p (.v (.string t))] [] [] (.p (.v (.bool c))):=
 zcG (zdC _ _ _ _ _ _) (fun w=>by subst h;simp only[binOp,Op.stringOp,zfC,qbx]) rfl
theorem a_sneqV{s t:ByteArray}(h:(!decide (s=t))=c):AOp P ⟨d,.binOp .neq xt x y yt,ty,pos,af,g⟩ [.p (.v (.string s)),.p (.v (.string t))] [] [] (.p (.v (.bool c))):=
 zcG (zdC _ _ _ _ _ _) (fun w=>by subst h;simp only[binOp,Op.stringOp,zfC,qbx]) rfl
end
theorem awp_cT{G:Env}{Q:Exit→St→Prop}{st:St}{c:Operand}{x y:Code}(hc:st.ev c=.p (.v (.bool true)))(h1:awp G x Q st):awp G (.cond c x y) Q st:=
 zaI true hc (fun _=>h1) (fun h=>by cases h)
theorem awp_cF{G:Env}{Q:Exit→St→Prop}{st:St}{c:Operand}{x y:Code}(hc:st.ev c=.p (.v (.bool false)))(h1:awp G y Q st):awp G (.cond c x y) Q st:=
 zaI false hc (fun h=>by cases h) (fun _=>h1)
section
variable {P:Program}{d:Option Tmp}{ty:TypeId}{pos:String}{af:Array Edge}{g:Option (Nat×Bool)}
theorem zaK{t yt:TypeId}{x y:Operand}{cs ds:List AV}{xs ys:List Value}{fs:Array Field}{c:Bool}(hu:P.underlying t=some (.struct fs))(hx:zcA cs=some xs)(hy:zcA ds=some ys)(hg:P.eqGuardType P.depth t=false)(h1:okS P 20 t xs=true)(h2:okS P 20 t ys=true)(hc:(!eqL xs ys)=c):
 AOp P ⟨d,.binOp .neq t x y yt,ty,pos,af,g⟩ [.agg cs,.agg ds] [] [] (.p (.v (.bool c))):=by
 subst hc;exact zcW hu hx hy hg h1 h2
theorem zcL{t yt:TypeId}{x y:Operand}{cs ds:List AV}{xs ys:List Value}{fs:Array Field}{c:Bool}(hu:P.underlying t=some (.struct fs))(hx:zcA cs=some xs)(hy:zcA ds=some ys)(hg:P.eqGuardType P.depth t=false)(h1:okS P 20 t xs=true)(h2:okS P 20 t ys=true)(hc:eqL xs ys=c):
 AOp P ⟨d,.binOp .eql t x y yt,ty,pos,af,g⟩ [.agg cs,.agg ds] [] [] (.p (.v (.bool c))):=by
 subst hc;exact zeH hu hx hy hg h1 h2
end
def W(_:List Nat)(q p:Prop):Prop:=q→p
section
variable {c:List Nat}{q p r:Prop}{st:St}{Q:Exit→St→Prop}
theorem Gg.n{n:Nat}(h:r→p)(k:W (n::c) q r):W ((n+1)::c) q p:=fun x=>h (k x)
theorem Gg.c1(h:r→p)(k:W c q r):W (0::1::c) q p:=fun x=>h (k x)
theorem Gg.c2(h:r→p)(k:W c q r):W (0::2::c) q p:=fun x=>h (k x)
theorem Gg.c3(h:r→p)(k:W c q r):W (0::3::c) q p:=fun x=>h (k x)
theorem Gg.c4(h:r→p)(k:W c q r):W (0::4::c) q p:=fun x=>h (k x)
theorem Gg.c9(k:W c q p):W (0::9::c) q p:=k
theorem Gg.z:W [0] p p:=id
theorem Gg.f1{K:St→Prop}(k:W c q (K st)):W c q (Thn K Q .normal st):=k
theorem Gg.f2{K:St→Prop}(k:W c q (Q .ret st)):W c q (Thn K Q .ret st):=k
theorem Gg.f3{K:St→Prop}{i:Nat}(k:W c q (Q (.exit i) st)):W c q (Thn K Q (.exit i) st):=k
theorem Gg.f4{i:Nat}(k:W c q (Q .normal st)):W c q (InB i Q .normal st):=k
theorem Gg.f5{i:Nat}(k:W c q (Q .ret st)):W c q (InB i Q .ret st):=k
theorem Gg.f6{i:Nat}(k:W c q (Q .normal st)):W c q (InB i Q (.exit i) st):=fun x=>zbi (k x)
theorem Gg.f7{i j:Nat}(h:Nat.beq j i=false)(k:W c q (Q (.exit j) st)):W c q (InB i Q (.exit j) st):=fun x=>zbq h (k x)
end
section
variable {P:Program}{ops:Array Oper}{l:List Oper}{fs:List Foot}{st:St}{d:Option Tmp}{ty:TypeId}{pos:String}{af:Array Edge}{gd:Option (Nat×Bool)}
theorem Gg.ni{Q:Exit→St→Prop}(h:Q .normal st):ARun P ops (fun _ st'=>Q .normal st') [] fs st:=h
theorem Gg.nd{Q:Exit→St→Prop}{nt fuel:Nat}(h1:zer nt fuel ops fs=true)(h:Q .normal st):ARun P ops (fun fs st'=>zer nt fuel ops fs=true∧Q .normal st') [] fs st:=⟨h1,h⟩
variable {K:List Foot→St→Prop}
theorem Gg.pu{o:Oper}{xs:List AV}{r:AV}(h:AOp P o xs [] [] r)(e:(o.op.operands.toList.map st.ev,zaJ ops o st)=(xs,some true))(k:ARun P ops K l (fs++[([],[])]) (st.put o.dst r)):ARun P ops K (o::l) fs st:=zaa h (congrArg Prod.fst e) (congrArg Prod.snd e) k
theorem Gg.r1{o:Oper}{xs:List AV}{a:Nat×Slot}{wrs:List (Nat×Slot)}{r:AV}(h:AOp P o xs [a] wrs r)(e:(o.op.operands.toList.map st.ev,zaJ ops o st,st.heap a.1)=(xs,some true,a.2))(k:ARun P ops K l (fs++[([a.1],wrs.map Prod.fst)]) ((st.upd wrs).put o.dst r)):ARun P ops K (o::l) fs st:=by
 simp only[Prod.mk.injEq]at e;exact zab h e.1 e.2.1 ⟨e.2.2,trivial⟩ k
theorem Gg.sk{o:Op}{gd:Nat×Bool}(hg:zaJ ops ⟨d,o,ty,pos,af,some gd⟩ st=some false)(k:ARun P ops K l (fs++[([],[])]) (st.put d (.mb false (.p (.v (.bool false)))))):ARun P ops K (⟨d,o,ty,pos,af,some gd⟩::l) fs st:=zbR hg k
theorem Gg.fa{x:Operand}{s:TypeId}{f off j o p:Nat}[h:FI P s f (off,j+1)](e:([st.ev x],zaJ ops ⟨d,.fieldAddr s x f,ty,pos,af,gd⟩ st)=([.ref o p],some true))(n:ARun P ops K l (fs++[([],[])]) (st.put d (.ref o (p+off)))):ARun P ops K (⟨d,.fieldAddr s x f,ty,pos,af,gd⟩::l) fs st:=fA h.h (congrArg Prod.fst e) (congrArg Prod.snd e) n
theorem Gg.fb{x:Operand}{s:TypeId}{f off j:Nat}{cs:List PV}[h:FI P s f (off,j+1)](e:([st.ev x],zaJ ops ⟨d,.fieldAddr s x f,ty,pos,af,gd⟩ st)=([.ptr cs],some true))(n:ARun P ops K l (fs++[([],[])]) (st.put d (.ptr (cs.drop off)))):ARun P ops K (⟨d,.fieldAddr s x f,ty,pos,af,gd⟩::l) fs st:=Gg.pu (zan h.h rfl) e n
theorem Gg.ld{x:Operand}{t bt:TypeId}{o off:Nat}{cs:List AV}{r:AV}[hu:RW P t false](e:([st.ev x],zaJ ops ⟨d,.load t x,ty,pos,af,gd⟩ st,st.heap o)=([.ref o off],some true,.live (.box bt cs)))(h:cs[off]?=some r)(k:ARun P ops K l (fs++[([o],[])]) (st.put d r)):ARun P ops K (⟨d,.load t x,ty,pos,af,gd⟩::l) fs st:=by
 obtain⟨ds,h1,h2⟩:=hu.h;simp only[Prod.mk.injEq]at e;exact l1 h1 h2 e.1 e.2.1 ⟨e.2.2,trivial⟩ k h
theorem Gg.ln{x:Operand}{t bt:TypeId}{o off m:Nat}{cs es:List AV}[hu:RW P t true][hi:SZ P t m](e:([st.ev x],zaJ ops ⟨d,.load t x,ty,pos,af,gd⟩ st,st.heap o)=([.ref o off],some true,.live (.box bt cs)))(hk:off+m≤cs.length)(h:(cs.drop off).take m=es)(k:ARun P ops K l (fs++[([o],[])]) (st.put d (.agg es))):ARun P ops K (⟨d,.load t x,ty,pos,af,gd⟩::l) fs st:=by
 obtain⟨ds,h1,h2⟩:=hu.h;simp only[Prod.mk.injEq]at e;exact lN h1 h2 hi.h e.1 e.2.1 ⟨e.2.2,trivial⟩ k hk h
theorem Gg.ex{x:Operand}{i:Nat}{vs:List AV}{r:AV}(e:([st.ev x],zaJ ops ⟨d,.extract x i,ty,pos,af,gd⟩ st)=([.tup vs],some true))(h:vs[i]?=some r)(k:ARun P ops K l (fs++[([],[])]) (st.put d r)):ARun P ops K (⟨d,.extract x i,ty,pos,af,gd⟩::l) fs st:=Gg.pu (zdE h) e k
theorem Gg.bx{x:Operand}{t:TypeId}{X:AV}{n:Nat}(e:([st.ev x],zaJ ops ⟨some n,.box t x,ty,pos,af,gd⟩ st,st.heap n)=([X],some true,.un))(hX:X.stor=true)(k:ARun P ops K l (fs++[([n],[n])]) ((st.upd [(n,.live (.box t X.cells))]).put (some n) (.ref n 0))):ARun P ops K (⟨some n,.box t x,ty,pos,af,gd⟩::l) fs st:=Gg.r1 (a:=(n,.un)) (zhk n hX) e k
theorem Gg.al{t:TypeId}{z:Value}{n:Nat}[hz:ZR P t z](e:(([]:List AV),zaJ ops ⟨some n,.alloc t,ty,pos,af,gd⟩ st,st.heap n)=([],some true,.un))(hX:(zcd z).stor=true)(k:ARun P ops K l (fs++[([n],[n])]) ((st.upd [(n,.live (.box t (zcd z).cells))]).put (some n) (.ref n 0))):ARun P ops K (⟨some n,.alloc t,ty,pos,af,gd⟩::l) fs st:=Gg.r1 (a:=(n,.un)) (zaT n hz.h hX) e k
theorem Gg.bu{t:TypeId}{parts:Array (Nat×Operand)}{z:Value}{places:List (Nat×Nat)}{xs es:List AV}[hp:PL P t places][hz:ZR P t z](e:((⟨d,.build t parts,ty,pos,af,gd⟩:Oper).op.operands.toList.map st.ev,zaJ ops ⟨d,.build t parts,ty,pos,af,gd⟩ st,(zcd z).stor)=(xs,some true,true))(hf:zgU (fun i=>places[i]?) (zcd z).cells ((parts.toList.map Prod.fst).zip xs)=some es)(k:ARun P ops K l (fs++[([],[])]) (st.put d (.agg es))):ARun P ops K (⟨d,.build t parts,ty,pos,af,gd⟩::l) fs st:=by
 simp only[Prod.mk.injEq]at e;exact zaa (zbO hp.h hz.h e.2.2 hf) e.1 e.2.1 k
theorem Gg.sa{x y:Operand}{t bt:TypeId}{o j:Nat}{cs:List AV}{Y:AV}[hi:SZ P t j](e:([st.ev x,st.ev y],zaJ ops ⟨d,.store t x y,ty,pos,af,gd⟩ st,st.heap o)=([.ref o 0,Y],some true,.live (.box bt cs)))(hY:Y.stor=true)(hl:Y.cells.length=j)(hc:cs.length=j)(k:ARun P ops K l (fs++[([o],[o])]) ((st.upd [(o,.live (.box bt Y.cells))]).put d .any)):ARun P ops K (⟨d,.store t x y,ty,pos,af,gd⟩::l) fs st:=Gg.r1 (a:=(o,.live (.box bt cs))) (zaf hi.h hY hl hc) e k
theorem Gg.sn{x y:Operand}{t bt:TypeId}{o off j:Nat}{cs es:List AV}{Y:AV}[hi:SZ P t j](e:([st.ev x,st.ev y],zaJ ops ⟨d,.store t x y,ty,pos,af,gd⟩ st,st.heap o)=([.ref o off,Y],some true,.live (.box bt cs)))(hY:Y.stor=true)(hl:Y.cells.length=j)(hk:off+j≤cs.length)(h:setR cs off Y.cells=es)(k:ARun P ops K l (fs++[([o],[o])]) ((st.upd [(o,.live (.box bt es))]).put d .any)):ARun P ops K (⟨d,.store t x y,ty,pos,af,gd⟩::l) fs st:=Gg.r1 (a:=(o,.live (.box bt cs))) (zbt hi.h hY hl hk h) e k
theorem Gg.an{c a b:Operand}{t t' y:Bool}(e:([st.ev c,st.ev a,st.ev b],zaJ ops ⟨d,.pick c a b,ty,pos,af,gd⟩ st)=([.p (.v (.bool t)),.mb t' (.p (.v (.bool y))),.p (.v (.bool false))],some true))(ht:t=true→t'=true)(k:ARun P ops K l (fs++[([],[])]) (st.put d (.p (.v (.bool (t&&y)))))):ARun P ops K (⟨d,.pick c a b,ty,pos,af,gd⟩::l) fs st:=Gg.pu (zki ht) e k
theorem Gg.or{c a b:Operand}{t t' y:Bool}(e:([st.ev c,st.ev a,st.ev b],zaJ ops ⟨d,.pick c a b,ty,pos,af,gd⟩ st)=([.p (.v (.bool t)),.p (.v (.bool true)),.mb t' (.p (.v (.bool y)))],some true))(ht:t=false→t'=true)(k:ARun P ops K l (fs++[([],[])]) (st.put d (.p (.v (.bool (t||y)))))):ARun P ops K (⟨d,.pick c a b,ty,pos,af,gd⟩::l) fs st:=Gg.pu (a_or ht) e k
theorem Gg.mp{o:Op}{gd:Nat×Bool}{xs':List AV}{r:AV}{b:Bool}(e:(zaJ ops ⟨d,o,ty,pos,af,some gd⟩ st,(o.operands.toList.map st.ev).map AV.strip)=(some b,xs'))(h:AOp P ⟨d,o,ty,pos,af,some gd⟩ xs' [] [] r)(hs:StripOK b (o.operands.toList.map st.ev))(k:ARun P ops K l (fs++[([],[])]) (st.put d (.mb b r))):ARun P ops K (⟨d,o,ty,pos,af,some gd⟩::l) fs st:=r_mb2 b (congrArg Prod.fst e) (congrArg Prod.snd e) hs (fun _=>h) (fun _=>trivial) k
theorem Gg.ml{x:Operand}{t bt:TypeId}{o off:Nat}{cs:List AV}{gd:Nat×Bool}{r:AV}{b:Bool}[hu:RW P t false](e:(zaJ ops ⟨d,.load t x,ty,pos,af,some gd⟩ st,[(st.ev x).strip],st.heap o)=(some b,[.ref o off],.live (.box bt cs)))(h:cs[off]?=some r)(hs:StripOK b [st.ev x])(k:ARun P ops K l (fs++[([o],[])]) (st.put d (.mb b r))):ARun P ops K (⟨d,.load t x,ty,pos,af,some gd⟩::l) fs st:=by
 obtain⟨ds,h1,h2⟩:=hu.h;simp only[Prod.mk.injEq]at e;exact r_mb2 (rds:=[(o,.live (.box bt cs))]) b e.1 e.2.1 hs (fun _=>zcz h1 h2 h) (fun _=>⟨e.2.2,trivial⟩) k
theorem Gg.mf{x:Operand}{s:TypeId}{f off j o p:Nat}{gd:Nat×Bool}{b:Bool}[h:FI P s f (off,j+1)](e:(zaJ ops ⟨d,.fieldAddr s x f,ty,pos,af,some gd⟩ st,[(st.ev x).strip])=(some b,[.ref o p]))(hs:StripOK b [st.ev x])(k:ARun P ops K l (fs++[([],[])]) (st.put d (.mb b (.ref o (p+off))))):ARun P ops K (⟨d,.fieldAddr s x f,ty,pos,af,some gd⟩::l) fs st:=Gg.mp e (zaC h.h rfl) hs k
theorem Gg.ix{x y:Operand}{t e:TypeId}{j n:Nat}{kk:IntKind}{i:Int}{cs:List PV}[hu:SL P t e][hi:SZ P e j](e':([st.ev x,st.ev y],zaJ ops ⟨d,.indexAddr t x y,ty,pos,af,gd⟩ st)=([.p (.sl n j cs),.p (.v (.int kk i))],some true))(h0:0≤i)(h1:i<n)(k:ARun P ops K l (fs++[([],[])]) (st.put d (.ptr (cs.drop (i.toNat*j))))):ARun P ops K (⟨d,.indexAddr t x y,ty,pos,af,gd⟩::l) fs st:=Gg.pu (zaL hu.h hi.h h0 h1 rfl) e' k
theorem Gg.iy{x y:Operand}{t e e2:TypeId}{j n o size q:Nat}{kk:IntKind}{i:Int}{cs:List PV}[hu:SL P t e][hi:SZ P e j](e':([st.ev x,st.ev y],zaJ ops ⟨d,.indexAddr t x y,ty,pos,af,gd⟩ st,st.heap o)=([.row o,.p (.v (.int kk i))],some true,.live (.row e2 size n cs)))(h0:0≤i)(h1:i<n)(hq:i.toNat*j=q)(k:ARun P ops K l (fs++[([o],[])]) (st.put d (.ref o q))):ARun P ops K (⟨d,.indexAddr t x y,ty,pos,af,gd⟩::l) fs st:=Gg.r1 (a:=(o,.live (.row e2 size n cs))) (zao hu.h hi.h h0 h1 hq) e' k
theorem Gg.lq{x:Operand}{t:TypeId}{j:Nat}{cs es:List PV}[hu:RW P t true][hi:SZ P t j](e:([st.ev x],zaJ ops ⟨d,.load t x,ty,pos,af,gd⟩ st)=([.ptr cs],some true))(hk:j≤cs.length)(h:cs.take j=es)(k:ARun P ops K l (fs++[([],[])]) (st.put d (.agg (es.map AV.p)))):ARun P ops K (⟨d,.load t x,ty,pos,af,gd⟩::l) fs st:=by
 obtain⟨ds,h1,h2⟩:=hu.h;exact Gg.pu (zay h1 h2 hi.h hk h) e k
theorem Gg.lo{x:Operand}{t:TypeId}{cs:List PV}{r:PV}[hu:RW P t false](e:([st.ev x],zaJ ops ⟨d,.load t x,ty,pos,af,gd⟩ st)=([.ptr cs],some true))(h:cs[0]?=some r)(k:ARun P ops K l (fs++[([],[])]) (st.put d (.p r))):ARun P ops K (⟨d,.load t x,ty,pos,af,gd⟩::l) fs st:=by
 obtain⟨ds,h1,h2⟩:=hu.h;exact Gg.pu (zaz h1 h2 h) e k
theorem Gg.lr{x:Operand}{t e:TypeId}{o off size n:Nat}{cs:List PV}{r:PV}[hu:RW P t false](e':([st.ev x],zaJ ops ⟨d,.load t x,ty,pos,af,gd⟩ st,st.heap o)=([.ref o off],some true,.live (.row e size n cs)))(h:cs[off]?=some r)(k:ARun P ops K l (fs++[([o],[])]) (st.put d (.p r))):ARun P ops K (⟨d,.load t x,ty,pos,af,gd⟩::l) fs st:=by
 obtain⟨ds,h1,h2⟩:=hu.h;exact Gg.r1 (a:=(o,.live (.row e size n cs))) (zaQ h1 h2 h) e' k
theorem Gg.ls{x:Operand}{t e:TypeId}{n j:Nat}{cs:List PV}[hu:SL P t e](e':([st.ev x],zaJ ops ⟨d,.call {callee:=.builtin .len,args:= #[x],argTypes:= #[t]},ty,pos,af,gd⟩ st)=([.p (.sl n j cs)],some true)) (k:ARun P ops K l (fs++[([],[])]) (st.put d (.p (.v (.int .i64 n))))):ARun P ops K (⟨d,.call {callee:=.builtin .len,args:= #[x],argTypes:= #[t]},ty,pos,af,gd⟩::l) fs st:=Gg.pu (zdd hu.h) e' k
theorem Gg.lt{x:Operand}{t:TypeId}{s:ByteArray}[hu:SR P t](e':([st.ev x],zaJ ops ⟨d,.call {callee:=.builtin .len,args:= #[x],argTypes:= #[t]},ty,pos,af,gd⟩ st)=([.p (.v (.string s))],some true)) (k:ARun P ops K l (fs++[([],[])]) (st.put d (.p (.v (.int .i64 s.size))))):ARun P ops K (⟨d,.call {callee:=.builtin .len,args:= #[x],argTypes:= #[t]},ty,pos,af,gd⟩::l) fs st:=Gg.pu (zhC hu.h) e' k
theorem Gg.lv{x:Operand}{t e:TypeId}{o off n j:Nat}[hu:SL P t e](e':([st.ev x],zaJ ops ⟨d,.call {callee:=.builtin .len,args:= #[x],argTypes:= #[t]},ty,pos,af,gd⟩ st)=([.psl o off n j],some true)) (k:ARun P ops K l (fs++[([],[])]) (st.put d (.p (.v (.int .i64 n))))):ARun P ops K (⟨d,.call {callee:=.builtin .len,args:= #[x],argTypes:= #[t]},ty,pos,af,gd⟩::l) fs st:=Gg.pu (a_lenV hu.h) e' k
theorem Gg.lw{x:Operand}{t e e2:TypeId}{o n j:Nat}{cs:List PV}[hu:SL P t e](e':([st.ev x],zaJ ops ⟨d,.call {callee:=.builtin .len,args:= #[x],argTypes:= #[t]},ty,pos,af,gd⟩ st,st.heap o)=([.row o],some true,.live (.row e2 j n cs))) (k:ARun P ops K l (fs++[([o],[])]) (st.put d (.p (.v (.int .i64 n))))):ARun P ops K (⟨d,.call {callee:=.builtin .len,args:= #[x],argTypes:= #[t]},ty,pos,af,gd⟩::l) fs st:=Gg.r1 (a:=(o,.live (.row e2 j n cs))) (a_lenR hu.h) e' k
theorem Gg.cv{x:Operand}{src dst:TypeId}{kk kd:IntKind}{a c:Int}{b:Bool}[hs:RW P src b][hd:IK P dst kd](e:([st.ev x],zaJ ops ⟨d,.convert src dst x,ty,pos,af,gd⟩ st)=([.p (.v (.int kk a))],some true))(h:kd.wrap a=c)(k:ARun P ops K l (fs++[([],[])]) (st.put d (.p (.v (.int kd c))))):ARun P ops K (⟨d,.convert src dst x,ty,pos,af,gd⟩::l) fs st:=by
 obtain⟨ds,h1,_⟩:=hs.h;exact Gg.pu (zbn h1 hd.h h) e k
theorem Gg.bi{o:BinOp}{x y:Operand}{xt yt:TypeId}{kk:IntKind}{a b c:Int}{b':Int}(e:([st.ev x,st.ev y],zaJ ops ⟨d,.binOp o xt x y yt,ty,pos,af,gd⟩ st)=([.p (.v (.int kk a)),.p (.v (.int kk b))],some true))(hb:o=.add∧b'=a+b∨o=.sub∧b'=a-b∨o=.mul∧b'=a*b)(h:kk.wrap b'=c)(k:ARun P ops K l (fs++[([],[])]) (st.put d (.p (.v (.int kk c))))):ARun P ops K (⟨d,.binOp o xt x y yt,ty,pos,af,gd⟩::l) fs st:=by
 rcases hb with⟨rfl,rfl⟩|⟨rfl,rfl⟩|⟨rfl,rfl⟩
 ·exact Gg.pu (zbf h) e k
 ·exact Gg.pu (ziu h) e k
 ·exact Gg.pu (a_mul h) e k
theorem Gg.vi{o:BinOp}{x y:Operand}{xt yt:TypeId}{kk:IntKind}{a b:Int}{u c:Bool}(e:([st.ev x,st.ev y],zaJ ops ⟨d,.binOp o xt x y yt,ty,pos,af,gd⟩ st)=([.p (.v (.int kk a)),.p (.v (.int kk b))],some true))(hb:o=.eql∧u=(a==b)∨o=.neq∧u=(a != b)∨o=.lss∧u=decide (a<b)∨o=.leq∧u=decide (a≤b)∨o=.gtr∧u=decide (b<a)∨o=.geq∧u=decide (b≤a))(h:u=c)(k:ARun P ops K l (fs++[([],[])]) (st.put d (.p (.v (.bool c))))):ARun P ops K (⟨d,.binOp o xt x y yt,ty,pos,af,gd⟩::l) fs st:=by
 rcases hb with⟨rfl,rfl⟩|⟨rfl,rfl⟩|⟨rfl,rfl⟩|⟨rfl,rfl⟩|⟨rfl,rfl⟩|⟨rfl,rfl⟩
 ·exact Gg.pu (a_eqlV h) e k
 ·exact Gg.pu (a_neqV h) e k
 ·exact Gg.pu (a_lssV h) e k
 ·exact Gg.pu (a_leqV h) e k
 ·exact Gg.pu (a_gtrV h) e k
 ·exact Gg.pu (a_geqV h) e k
theorem Gg.vs{o:BinOp}{x y:Operand}{xt yt:TypeId}{a b:ByteArray}{u c:Bool}(e:([st.ev x,st.ev y],zaJ ops ⟨d,.binOp o xt x y yt,ty,pos,af,gd⟩ st)=([.p (.v (.string a)),.p (.v (.string b))],some true))(hb:o=.eql∧u=decide (a=b)∨o=.neq∧u=(!decide (a=b)))(h:u=c)(k:ARun P ops K l (fs++[([],[])]) (st.put d (.p (.v (.bool c))))):ARun P ops K (⟨d,.binOp o xt x y yt,ty,pos,af,gd⟩::l) fs st:=by
 rcases hb with⟨rfl,rfl⟩|⟨rfl,rfl⟩
 ·exact Gg.pu (za2 h) e k
 ·exact Gg.pu (a_sneqV h) e k
theorem cX{P:Program}{w0:World}{A:Ctx}{nt:Nat}{st:St}{Q:Exit→St→Prop}{c:Operand}{x y:Code}{t:Bool}(h1:t=true→awp ⟨P,w0,A,nt⟩ x Q st)(h2:t=false→awp ⟨P,w0,A,nt⟩ y Q st)(hc:st.ev c=.p (.v (.bool t)):=by exact rfl):awp ⟨P,w0,A,nt⟩ (.cond c x y) Q st:=zaI t hc h1 h2
theorem fnI{f:FuncId}{fn:Func}{c:Code}{args:List AV}{res:AV}{news:List (Nat×AObj)}[hf:FU P f fn](h:∀w0 A,awp ⟨P,w0,ctx0 A,fn.ntmps⟩ c (Fin P fn.results.toList res news) (St.of (ziA 0 args) []))(hb:fn.body=some c:=by exact rfl)(hn:args.length≤fn.ntmps:=by exact qbk rfl):Fn P f args res news:=zb0 hf.h hb hn h
theorem fnIO{f:FuncId}{fn:Func}{c:Code}{args:List AV}{res:AV}{rds wrs:List (Nat×Slot)}[hf:FU P f fn](h:∀w0 A heap,awp ⟨P,w0,A,fn.ntmps⟩ c (FinO P fn.results.toList res heap wrs) ⟨zgi (ziA 0 args),updL heap rds⟩)(hb:fn.body=some c:=by exact rfl)(hn:args.length≤fn.ntmps:=by exact qbk rfl):FnO P f args rds wrs res:=zif hf.h hb hn h
theorem cK{x:Operand}{args:Array Operand}{ts:Array TypeId}{f:FuncId}{fn:Func}{us cs:List AV}{res:AV}{news:List (Nat×AObj)}{n:Nat}(hC:Fn P f us res news)[hf:FU P f fn]{r:AV}{wrs:List (Nat×Slot)}
 (k:ARun P ops K l (fs++[(news.map (fun p=>n+1000*p.1),news.map fun p=>n+1000*p.1)]) ((st.upd wrs).put (some n) r))
 (hx:st.ev x=.fn f cs:=by exact rfl) (hxs:args.toList.map st.ev++cs=us:=by exact rfl) (hb:fn.body.isNone=false:=by exact rfl) (hn:(fn.name== "runtime.NumGoroutine")=false:=by exact rfl)
 (h1:AV.okInL [] us=true:=by first|rfl|simp[AV.okInL,AV.okIn,zaA]) (h3:res.okIn (news.map Prod.fst)=true:=by exact rfl) (h4:zbL (news.map Prod.fst)=true:=by exact rfl) (h5:zbL (news.map fun p=>n+1000*p.1)=true:=by exact rfl)
 (hun:Rds st (news.map fun p=>(n+1000*p.1,.un)):=by first|exact trivial|exact⟨rfl,trivial⟩|exact⟨rfl,rfl,trivial⟩|exact⟨rfl,rfl,rfl,rfl,rfl,trivial⟩) (hg:zaJ ops ⟨some n,.call {callee:=.value x,args:=args,argTypes:=ts},ty,pos,af,gd⟩ st=some true:=by exact rfl) (hr:res.ren (fun m=>n+1000*m)=r:=by exact rfl) (hw:zb4 (fun m=>n+1000*m) news=wrs:=by exact rfl):
 ARun P ops K (⟨some n,.call {callee:=.value x,args:=args,argTypes:=ts},ty,pos,af,gd⟩::l) fs st:=zbN (fun m=>n+1000*m) hC hx hxs hf.h hb hn h1 h3 h4 h5 hun hg hr hw k
theorem cV{x:Operand}{args:Array Operand}{ts:Array TypeId}{f:FuncId}{fn:Func}{us cs:List AV}{res:AV}{news:List (Nat×AObj)}{n:Nat}(hC:Fn P f us res news)[hf:FU P f fn]{r:AV}{wrs:List (Nat×Slot)}
 (k:ARun P ops K l (fs++[(AV.objsL (args.toList.map st.ev++cs)++news.map (fun p=>n+1000*p.1),news.map fun p=>n+1000*p.1)]) ((st.upd wrs).put (some n) r))
 (hx:st.ev x=.fn f cs:=by exact rfl) (hxs:AV.viewL (fun _=>false) st.heap (args.toList.map st.ev++cs)=us:=by exact rfl) (hb:fn.body.isNone=false:=by exact rfl) (hn:(fn.name== "runtime.NumGoroutine")=false:=by exact rfl)
 (h1:res.noSl=true:=by first|rfl|simp[AV.noSl,AV.noSlL,AObj.noSl,PV.isV,zaF]) (h2:news.all (fun p=>p.2.noSl)=true:=by first|rfl|simp[AV.noSl,AV.noSlL,AObj.noSl,PV.isV,zaF]) (h3:res.okIn (news.map Prod.fst)=true:=by exact rfl) (h4:zbL (news.map Prod.fst)=true:=by exact rfl) (h5:zbL (news.map fun p=>n+1000*p.1)=true:=by exact rfl)
 (hun:Rds st (news.map fun p=>(n+1000*p.1,.un)):=by first|exact trivial|exact⟨rfl,trivial⟩|exact⟨rfl,rfl,trivial⟩|exact⟨rfl,rfl,rfl,rfl,rfl,trivial⟩) (hg:zaJ ops ⟨some n,.call {callee:=.value x,args:=args,argTypes:=ts},ty,pos,af,gd⟩ st=some true:=by exact rfl) (hr:res.ren (fun m=>n+1000*m)=r:=by exact rfl) (hw:zb4 (fun m=>n+1000*m) news=wrs:=by exact rfl):
 ARun P ops K (⟨some n,.call {callee:=.value x,args:=args,argTypes:=ts},ty,pos,af,gd⟩::l) fs st:=zaU (fun m=>n+1000*m) hC hx hxs hf.h hb hn h1 h2 h3 h4 h5 hun hg hr hw k
theorem Gg.y1{a t:Nat}{l:List ResultVar}{o bt:Nat}{c:AV}{xs:List AV}[h:RW P t false](h1:st.tmps a=.ref o 0)(h2:st.heap o=.live (.box bt [c]))(h3:ResIs P st l xs):ResIs P st (.cell a t::l) (c::xs):=by
 obtain⟨ds,k1,k2⟩:=h.h;exact .cell1 _ _ _ _ _ _ _ _ h1 h2 k1 k2 h3
theorem Gg.y2{a t:Nat}{l:List ResultVar}{o bt j:Nat}{cs:List AV}{xs:List AV}[h:RW P t true][hi:SZ P t j](h1:st.tmps a=.ref o 0)(h2:st.heap o=.live (.box bt cs))(hc:cs.length=j)(h3:ResIs P st l xs):ResIs P st (.cell a t::l) (.agg cs::xs):=by
 obtain⟨ds,k1,k2⟩:=h.h;exact .cellN _ _ _ _ _ _ _ _ _ h1 h2 k1 k2 hi.h hc h3
theorem yT{rs:List ResultVar}{res:AV}{e:Exit}{vals:List AV}{news:List (Nat×AObj)}(ρ:Nat→Nat)(hv:(oneA vals).view (zgj ρ news) st.heap=res.ren ρ)(ho:LeO ρ st (news.map Prod.fst) news)(h:ResIs P st rs vals:=by repeat(first|exact ResIs.nil|(apply ResIs.tmp;exact rfl)|(apply Gg.y1;exact rfl;exact rfl)|(apply Gg.y2;exact rfl;exact rfl;(first|assumption|kernel_rfl))))
 (he:e=.normal∨e=.ret:=by first|exact .inl rfl|exact .inr rfl) (hk:res.okIn (news.map Prod.fst)=true:=by exact rfl) (hn:zbL (news.map fun p=>ρ p.1)=true:=by exact rfl):Fin P rs res news e st:=fT ρ h hv ho he hk hn
theorem yE{rs:List ResultVar}{res:AV}{e:Exit}{vals:List AV}{news:List (Nat×AObj)}(h:ResIs P st rs vals:=by repeat(first|exact ResIs.nil|(apply ResIs.tmp;exact rfl)|(apply Gg.y1;exact rfl;exact rfl)|(apply Gg.y2;exact rfl;exact rfl;(first|assumption|kernel_rfl))))
 (hv:(oneA vals).view (zgj (fun o=>o) news) st.heap=res.ren fun o=>o:=by exact rfl) (ho:LeO (fun o=>o) st (news.map Prod.fst) news:=by exact trivial) (he:e=.normal∨e=.ret:=by first|exact .inl rfl|exact .inr rfl) (hk:res.okIn (news.map Prod.fst)=true:=by exact rfl) (hn:zbL (news.map fun p=>p.1)=true:=by exact rfl):Fin P rs res news e st:=fT (fun o=>o) h hv ho he hk hn
end
theorem G{p q:Prop}(c:List Nat)(k:q)(h:W c q p:=by
 repeat(first
  |(with_reducible apply Gg.z)
  |(with_reducible apply Gg.f1)
  |(with_reducible apply Gg.f2)
  |(with_reducible apply Gg.f3)
  |(with_reducible apply Gg.f4)
  |(with_reducible apply Gg.f5)
  |(with_reducible apply Gg.f6)
  |((with_reducible apply Gg.f7);exact rfl)
  |((with_reducible apply Gg.n);first
   |((with_reducible apply Gg.ni))
   |((with_reducible apply zad))
   |((with_reducible apply zaN);kernel_rfl)
   |((with_reducible apply Gg.pu (zaG (r:=.p _)));exact rfl)
   |((with_reducible apply Gg.pu (zah (r:=.p _)));exact rfl)
   |((with_reducible apply Gg.sk);exact rfl)
   |((with_reducible apply Gg.fa);exact rfl)
   |((with_reducible apply Gg.ld);exact rfl;(first|exact rfl|assumption))
   |((with_reducible apply Gg.pu a_pickF);exact rfl)
   |((with_reducible apply Gg.pu a_pickT);exact rfl)
   |((with_reducible apply awp_cF);exact rfl)
   |((with_reducible apply awp_cT);exact rfl)
   |((with_reducible apply zal))
   |((with_reducible apply zaj))
   |((with_reducible apply zaq))
   |((with_reducible apply zar))
   |((with_reducible apply Gg.ln);exact rfl;(first|exact qbk rfl|omega|(simp only[AV.cells,List.length_map];omega));(first|exact zcX qK|(simp only[qb5,qcb,qcg,qcc];rfl)|rfl))
   |((with_reducible apply Gg.pu a_eql);exact rfl)
   |((with_reducible apply Gg.pu ziw);exact rfl)
   |((with_reducible apply Gg.pu zcM);exact rfl)
   |((with_reducible apply Gg.pu a_leq);exact rfl)
   |((with_reducible apply Gg.pu a_gtr);exact rfl)
   |((with_reducible apply Gg.pu a_geq);exact rfl)
   |((with_reducible apply Gg.pu zji);exact rfl)
   |((with_reducible apply Gg.pu a_sneq);exact rfl)
   |((with_reducible apply Gg.pu a_not);exact rfl)
   |((with_reducible apply Gg.ex);exact rfl;exact rfl)
   |((with_reducible apply Gg.pu (zah (r:=.row _)));exact rfl)
   |((with_reducible apply Gg.pu (zaG (r:=.row _)));exact rfl)
   |((with_reducible apply Gg.pu (zah (r:=.tup _)));exact rfl)
   |((with_reducible apply Gg.pu (zaG (r:=.tup _)));exact rfl)
   |((with_reducible apply Gg.pu (zah (r:=.ref _ _)));exact rfl)
   |((with_reducible apply Gg.pu (zaG (r:=.ref _ _)));exact rfl)
   |((with_reducible apply Gg.pu (zah (r:=.agg _)));exact rfl)
   |((with_reducible apply Gg.pu (zaG (r:=.agg _)));exact rfl)
   |((with_reducible apply Gg.pu (zah (r:=.psl _ _ _ _)));exact rfl)
   |((with_reducible apply Gg.pu (zaG (r:=.psl _ _ _ _)));exact rfl)
   |((with_reducible apply Gg.pu (zah (r:=.ptr _)));exact rfl)
   |((with_reducible apply Gg.pu (zaG (r:=.ptr _)));exact rfl)
   |((with_reducible apply Gg.pu (zah (r:=.fn _ _)));exact rfl)
   |((with_reducible apply Gg.pu (zaG (r:=.fn _ _)));exact rfl)
   |((with_reducible apply Gg.ls);exact rfl)
   |((with_reducible apply Gg.lt);exact rfl)
   |((with_reducible apply Gg.lw);exact rfl)
   |((with_reducible apply Gg.lv);exact rfl)
   |((with_reducible apply Gg.ix);exact rfl;omega;omega)
   |((with_reducible apply Gg.iy);exact rfl;omega;omega;(first|(simp only[qbt,qbU,qbO];rfl)|rfl))
   |((with_reducible apply Gg.lq);exact rfl;(focus(first|omega|(simp;done)|(simp;omega)));(first|assumption|rfl))
   |((with_reducible apply Gg.lo);exact rfl;(first|rfl|assumption|((try simp only[qbF,qbR,qbt,qbU,qb4,qbO]);first|assumption|rfl)))
   |((with_reducible apply Gg.lr);exact rfl;(first|rfl|assumption|((try simp only[qbF,qbR,qbt,qbU,qb4,qbO]);first|assumption|rfl)))
   |((with_reducible apply Gg.bi);exact rfl;(first|exact .inl ⟨rfl,rfl⟩|exact .inr (.inl ⟨rfl,rfl⟩)|exact .inr (.inr ⟨rfl,rfl⟩));(first|exact qcd _ qp|exact qcl _ qp|exact qc7 _ qp|exact IntWalk.u64_in _ qp|rfl))
   |((with_reducible apply Gg.cv);exact rfl;(first|exact qcd _ qp|exact qcl _ qp|exact qc7 _ qp|exact IntWalk.u64_in _ qp|rfl))
   |((with_reducible apply Gg.sn);exact rfl;exact rfl;(first|exact qbn rfl|(simp only[AV.cells,List.length_map];first|assumption|omega));(first|exact qbk rfl|omega|(simp only[AV.cells,List.length_map];omega));(first|(simp only[setR,AV.cells,qb5,qcb,qcg,qcc,List.drop_nil,List.take_nil,qb0,qbW,List.append_nil,qbE,qcQ,Nat.reduceAdd,qbO,qb4];rfl)|rfl))
   |((with_reducible apply Gg.bx);exact rfl;exact rfl)
   |((with_reducible apply Gg.al);exact rfl;exact rfl)
   |((with_reducible apply Gg.bu);exact rfl;exact rfl)
   |((with_reducible apply Gg.sa);exact rfl;exact rfl;(first|exact qbn rfl|(simp only[AV.cells,List.length_map];first|assumption|omega));exact qbn rfl)
   |((with_reducible apply Gg.fb);exact rfl)
   |((with_reducible apply za9 4);kernel_rfl)
   |((with_reducible apply Gg.nd);kernel_rfl)
   |((with_reducible apply Gg.pu zeI);exact rfl)
   |((with_reducible apply Gg.pu (zah (r:=.mb _ _)));exact rfl)
   |((with_reducible apply Gg.pu (zaG (r:=.mb _ _)));exact rfl)
   |((with_reducible apply Gg.pu (zah (r:=.mp _)));exact rfl)
   |((with_reducible apply Gg.pu (zaG (r:=.mp _)));exact rfl)
   |((with_reducible apply Gg.pu (zah (r:=.sat _)));exact rfl)
   |((with_reducible apply Gg.pu (zaG (r:=.sat _)));exact rfl)
   |((with_reducible apply Gg.pu (zah (r:=.any)));exact rfl)
   |((with_reducible apply Gg.pu (zaG (r:=.any)));exact rfl)
   |((with_reducible apply Gg.mp);exact rfl;(first|apply zah (r:=.p _)|apply a_eql|apply ziw|apply zcM|apply a_gtr|apply a_leq|apply a_geq|apply zji|apply a_sneq|apply a_not);(repeat(first|exact zem|refine zcB id ?_|refine stripOK_p ?_|refine zhM ?_|refine zhL ?_|refine zhN ?_|refine zhO ?_|refine zcB (by simp_all) ?_|refine StripOK.plain _ _ rfl ?_)))
   |((with_reducible apply Gg.ml);exact rfl;(first|exact rfl|assumption);(repeat(first|exact zem|refine zcB id ?_|refine zcB (by simp_all) ?_|refine StripOK.plain _ _ rfl ?_)))
   |((with_reducible apply Gg.mf);exact rfl;(repeat(first|exact zem|refine zcB id ?_|refine zcB (by simp_all) ?_|refine StripOK.plain _ _ rfl ?_))))
  |((with_reducible apply Gg.c1);first
   |((with_reducible apply Gg.pu a_eqlT);exact rfl)
   |((with_reducible apply Gg.pu zjj);exact rfl)
   |((with_reducible apply Gg.pu a_seqlT);exact rfl)
   |((with_reducible apply Gg.pu a_sneqT);exact rfl))
  |((with_reducible apply Gg.c3);first
   |((with_reducible apply Gg.vi (c:=false));exact rfl;(first|exact .inl ⟨rfl,rfl⟩|exact .inr (.inl ⟨rfl,rfl⟩)|exact .inr (.inr (.inl ⟨rfl,rfl⟩))|exact .inr (.inr (.inr (.inl ⟨rfl,rfl⟩)))|exact .inr (.inr (.inr (.inr (.inl ⟨rfl,rfl⟩))))|exact .inr (.inr (.inr (.inr (.inr ⟨rfl,rfl⟩)))));(focus(first|decide|(simp;done)|(simp;omega)|(simp[*];done)|simp_all)))
   |((with_reducible apply Gg.vs (c:=false));exact rfl;(first|exact .inl ⟨rfl,rfl⟩|exact .inr ⟨rfl,rfl⟩);(focus(first|decide|(simp;done)|(simp;omega)|(simp[*];done)|simp_all))))
  |((with_reducible apply Gg.c4);first
   |((with_reducible apply Gg.vi (c:=true));exact rfl;(first|exact .inl ⟨rfl,rfl⟩|exact .inr (.inl ⟨rfl,rfl⟩)|exact .inr (.inr (.inl ⟨rfl,rfl⟩))|exact .inr (.inr (.inr (.inl ⟨rfl,rfl⟩)))|exact .inr (.inr (.inr (.inr (.inl ⟨rfl,rfl⟩))))|exact .inr (.inr (.inr (.inr (.inr ⟨rfl,rfl⟩)))));(focus(first|decide|(simp;done)|(simp;omega)|(simp[*];done)|simp_all)))
   |((with_reducible apply Gg.vs (c:=true));exact rfl;(first|exact .inl ⟨rfl,rfl⟩|exact .inr ⟨rfl,rfl⟩);(focus(first|decide|(simp;done)|(simp;omega)|(simp[*];done)|simp_all))))
  |(with_reducible apply Gg.c9)
  |((with_reducible apply Gg.c2);first
   |((with_reducible apply Gg.an);exact rfl;(focus(first|exact id|(simp;done)|grind)))
   |((with_reducible apply Gg.or);exact rfl;(focus(first|exact id|(simp;done)|grind)))))):p:=h k
theorem jap{p:Prop}(h:p:=by
 (repeat(first|exact trivial|(refine⟨⟨qJ,rfl⟩,?_⟩)))):p:=h
theorem jaq{p:Prop}(h:p:=by
 have hlj:j<5:=qw;clear h;obtain⟨n,hn5⟩:∃n,(0::zbo s)[j]?=some n:=⟨(0::zbo s)[j]'(by show j<5;exact hlj),List.getElem?_eq_getElem _⟩
 have hix:([.p (.v (.int .i64 0)),.p (.v (.int .i64 s.a.mine)),.p (.v (.int .i64 s.b.mine)),.p (.v (.int .i64 s.c.mine)),.p (.v (.int .i64 s.h.mine))]:List AV)[j*1]?=some (.p (.v (.int .i64 n))):=by
  rw[qbU];have:([.p (.v (.int .i64 0)),.p (.v (.int .i64 s.a.mine)),.p (.v (.int .i64 s.b.mine)),.p (.v (.int .i64 s.c.mine)),.p (.v (.int .i64 s.h.mine))]:List AV)=(0::zbo s).map fun n=>.p (.v (.int .i64 n)):=rfl
  rw[this,qbM,hn5];rfl
 have hdr:(0::zbo s).drop j=n::(0::zbo s).drop (j+1):=by
  obtain⟨q1,q2⟩:=qbl.1 hn5;rw[qbQ q1,q2]
 have htk:(0::zbo s).take (j+1)=(0::zbo s).take j++[n]:=by
  obtain⟨q1,q2⟩:=qbl.1 hn5;exact jda
 rw[hdr,dupB]at hdp;have hCt:=zjb X n (5*i+j) hX qp;have hil:=is_len X;have hps:=is_push X n;generalize hIs:is X=IX at*;refine G [5] ?_;refine zaa (zeJ underlying149 sz3 U3 rfl qp qp (show _=some (.p (.v (.int .i64 n)))by rw[qbt];exact hix)) rfl rfl ?_;refine G [2] ?_
 by_cases h0:0<n
 ·by_cases hm:n∈X
  ·rw[show(decide (0<n)&&decide (n∈X)||dupB (X++[n]) ((0::zbo s).drop (j+1)))=true by simp[h0,hm]]at hdp;rw[if_pos hdp]at hst;rw[hhit (by rw[hst];decide),hst]at hE;subst hE;rw[decide_eq_true hm]at hCt;refine G [4,4,3] ?_
   (first|refine zbR rfl ?_|refine zaU (fun n=>47+1000*n) (hCt) rfl rfl func96 rfl rfl qA qA rfl rfl rfl qr rfl rfl rfl ?_)
   refine G [7] ?_;refine jdm ?_;exact yE
  ·rw[show(decide (0<n)&&decide (n∈X)||dupB (X++[n]) ((0::zbo s).drop (j+1)))=dupB (X++[n]) ((0::zbo s).drop (j+1))by simp[hm]]at hdp;rw[decide_eq_false hm]at hCt;refine G [4,4,3] ?_
   (first|refine zbR rfl ?_|refine zaU (fun n=>47+1000*n) (hCt) rfl rfl func96 rfl rfl qA qA rfl rfl rfl qr rfl rfl rfl ?_)
   refine G [7] ?_;refine jd8 ?_;refine zab (zam 52 U147 eo3 (zas) qy qp (show _=5*i+(j+1)by omega) hps) rfl rfl ⟨rfl,rfl,rfl,trivial⟩ ?_;refine jdw ?_;refine⟨m'-1,qp,_,zai (fun _=>52) _ _ ?_ ?_ rfl,j+1,qp,X++[n],by simp[hX];omega,hdp,by rw[hXe,htk,qby],rfl⟩
   ·exact jap
   ·exact jbn
 ·rw[show(decide (0<n)&&decide (n∈X)||dupB (X++[n]) ((0::zbo s).drop (j+1)))=dupB (X++[n]) ((0::zbo s).drop (j+1))by simp[h0]]at hdp;refine G [4,3,11] ?_;refine jd8 ?_;refine zab (zam 52 U147 eo3 (zas) qy qp (show _=5*i+(j+1)by omega) hps) rfl rfl ⟨rfl,rfl,rfl,trivial⟩ ?_;refine jdw ?_;refine⟨m'-1,qp,_,zai (fun _=>52) _ _ ?_ ?_ rfl,j+1,qp,X++[n],by simp[hX];omega,hdp,by rw[hXe,htk,qby],rfl⟩
  ·exact jap
  ·exact jbn):p:=h
theorem jar{p:Prop}(h:p:=by
 exact zai id _ _ qv qv rfl):p:=h
theorem jas{p:Prop}(h:p:=by
 refine jdX ?_;refine G [10] ?_;refine zab (zdS (zaP 32 U34 eo5 (zbc) qy qp)) rfl rfl ⟨rfl,trivial⟩ ?_;refine zaa (zbO pl36 zr36 rfl rfl) rfl rfl ?_;refine jdG ?_;refine zab (zam 35 U64 eo36 (zas) qy qp (show _=j+1 by omega) hpp) rfl rfl ⟨rfl,rfl,rfl,trivial⟩ ?_;refine fA zig rfl rfl ?_;refine zab (zbt (es:=stA key ep a b c hh (.row 35)) sz64 rfl rfl (qbk rfl) rfl) rfl rfl ⟨rfl,trivial⟩ ?_;refine jdC ?_
 refine⟨m'-1,qp,_,zai (fun o=>bif Nat.beq o 101 then 35 else o) _ _ ?_ ?_ rfl,j+1,qp,rfl⟩
 ·exact jap
 ·exact jbr):p:=h
theorem jat{p:Prop}(h:p:=by
 have hE:kzE k now n=if kE k≠0 then kE k else if zbv k now=false then 13 else zc1 k.send k.counter n:=rfl
 have hck:(ksK k).cells=[.p (.v (.bool k.live)),.p (.v (.string k.send)),.p (.v (.string k.take)),.p (.v (.int .i64 k.mine)),.p (.v (.int .i64 k.theirs)),.p (.v (.int .i64 k.born)),.p (.v (.int .i64 (k.counter+1))),.p (.v (.bool k.ss)),.p (.v (.int .i64 k.sl)),.p (.v (.int .u64 k.sb)),.p (.v (.bool k.first))]:=rfl;generalize zdg k.send k.counter b=D at*
 by_cases h1:kE k≠0
 ·rw[if_pos h1]at hE;obtain⟨e1,e2⟩:=zfm hE h1 (ksK k) (n+16) D;rw[e1,e2];generalize kE k=e at*;refine fnI fun w0 A=>?_
  refine G [11] ?_;refine cV hC ?_;refine jds ?_;refine cX ?_ ?_<;>intro h
  ·refine G [9,9,0] ?_;exact yE
  ·exact absurd qB h1
 rw[if_neg h1]at hE;replace h1:kE k=0:=qbq.1 h1;rw[h1]at hC;cases hfr:zbv k now with
 |false=>
  rw[hfr]at hE hF;rw[if_pos rfl]at hE;obtain⟨e1,e2⟩:=zfm hE qS (ksK k) (n+16) D;rw[e1,e2];refine fnI fun w0 A=>?_
  refine G [11] ?_;refine cV hC ?_;refine G [5,1,1,9,0] ?_;refine cX ?_ ?_<;>intro h
  ·cases h
  refine G [6] ?_;refine cV hF ?_;refine jdR ?_;refine cX ?_ ?_<;>intro h
  ·exact jbs
  ·cases h
 |true=>
 rw[hfr]at hE hF;rw[if_neg (by simp)]at hE;have hbd:=hft hfr
 by_cases h2:zc1 k.send k.counter n≠0
 ·obtain⟨e1,e2⟩:=zfm hE h2 (ksK k) (n+16) D;rw[e1,e2];obtain⟨e1,e2⟩:=za6 (e':=zc1 k.send k.counter n) rfl h2 (n+16) D;rw[e1,e2]at hS;clear hE e1 e2;generalize zc1 k.send k.counter n=e at*;refine fnI fun w0 A=>?_
  refine G [11] ?_;refine cV hC ?_;refine G [5,1,1,9,0] ?_;refine cX ?_ ?_<;>intro h
  ·cases h
  refine G [6] ?_;refine cV hF ?_;refine jdR ?_;refine cX ?_ ?_<;>intro h
  ·cases h
  refine G [8] ?_;refine cV hS ?_;refine jd2 ?_;refine cX ?_ ?_<;>intro h
  ·refine G [9,9,0] ?_;exact yE
  ·exact absurd qB h2
 replace h2:zc1 k.send k.counter n=0:=qbq.1 h2;obtain⟨e1,e2⟩:=zgk (hE.trans h2) (ksK k) (n+16) D;rw[e1,e2,hck];obtain⟨e1,e2⟩:=zaM h2 (n+16) D;rw[e1,e2]at hS;clear hE e1 e2 hck;refine fnI fun w0 A=>?_
 refine G [11] ?_;refine cV hC ?_;refine G [5,1,1,9,0] ?_;refine cX ?_ ?_<;>intro h
 ·cases h
 refine G [6] ?_;refine cV hF ?_;refine jdR ?_;refine cX ?_ ?_<;>intro h
 ·cases h
 refine G [8] ?_;refine cV hS ?_;refine G [10,1,1,9,0] ?_;refine cX ?_ ?_<;>intro h
 ·cases h
 refine G [18,9,0] ?_;refine yT (fun _=>29) ?_ ?_
 ·exact rfl
 ·exact jbn):p:=h
theorem jau{p:Prop}(h:p:=by
 refine jdX ?_;refine G [5] ?_;refine zbN (fun _=>31) (hC) rfl rfl func15 rfl rfl qD rfl rfl rfl qr rfl rfl rfl ?_;refine G [3] ?_;refine zcH (zbY (cs:=bs xs) 31 rfl) ?_
 skip
 refine G [3] ?_;refine zab (zae 35 U64 sz36 zc36 (qbk rfl) (qbk rfl) rfl rfl rfl rfl (qbk rfl)) rfl rfl ⟨rfl,trivial⟩ ?_;refine zab (zam 36 U64 eo36 (zas) qy qp rfl rfl) rfl rfl ⟨rfl,rfl,rfl,trivial⟩ ?_;refine jdw ?_;refine⟨m'-1,qp,_,zai (fun o=>bif Nat.beq o 101 then 36 else o) _ _ ?_ ?_ rfl,j+1,qp,rfl⟩
 ·exact jap
 ·exact⟨⟨rfl,rfl⟩,⟨rfl,rfl⟩,⟨by rw[←hpp];rfl,rfl⟩,trivial⟩):p:=h
theorem jav{p:Prop}(h:p:=by
 refine zaa (zaK U101 rfl rfl qq qq qq (c:=true) (by rw[zbB];simp;omega)) rfl rfl ?_;refine G [2,4,9,9,0] ?_
 exact yE):p:=h
theorem jaw{p:Prop}(h:p:=by
 refine⟨u-1,qp,_,zai id _ _ ?_ ?_ rfl,i+1,qp,fun j hj=>?_,rfl⟩
 ·exact jap
 ·exact trivial
 ·by_cases e:j=i
  ·rw[e];exact hxy he
  ·exact hf j qp):p:=h
theorem jax{p:Prop}(h:p:=by
 (intro o ho;simp only[List.any_cons,List.any_nil,Bool.or_false,Bool.or_eq_false_iff]at ho;simp[St.put,St.upd,updL,zb4,ho])):p:=h
theorem jay{p:Prop}(h:p:=by
 have hlt:i<q.length:=qw;clear h;obtain⟨p,hp⟩:∃p,q[i]?=some p:=⟨q[i],List.getElem?_eq_getElem hlt⟩;have hch:=zav (f:=PQ.pv) (k:=3) (fun _=>rfl) hp;have hle:=zaw (f:=PQ.pv) (k:=3) (fun _=>rfl) hlt;have hpx:=hqx p (qbo hp);have hhit:=@zcx f i q.length hf hlt;have hfi:f i=if 200<p.xs.length then 1 else 0:=qT
 obtain⟨pa,pb,xs⟩:=p;dsimp only at hpx hfi;change _=[PV.v (.int .u32 pa),.v (.int .u32 pb),.sl xs.length 1 (bs xs)]at hch;have hC:=pchk_s pa pb xs.length (bs xs) qp;generalize hL:q.flatMap PQ.pv=L at*;generalize bs xs=X at*;generalize xs.length=N at*;refine G [6] ?_;refine zaa (zay U36 rfl sz36 qab (hch)) rfl rfl ?_;refine zab (zaT 14 zr36 rfl) rfl rfl ⟨rfl,trivial⟩ ?_;refine jeo ?_;refine jdV ?_;refine cX ?_ ?_<;>intro h
 ·have h6:200<N:=qw;rw[if_pos h6]at hfi;rw[hhit (by rw[hfi];decide),hfi]at hE;subst hE;exact jbo
 ·have h6:¬200<N:=qw;clear h;refine jdC ?_
  exact jbx):p:=h
theorem jaz{p:Prop}(h:p:=by
 rw[show(2:Int)^min (8:Int).toNat IntKind.i64.bits=256 from rfl,qbG _ (by omega)]
 rw[qci,←qcL];omega):p:=h
theorem jaA{p:Prop}(h:p:=by
 refine⟨_,zai id _ _ ?_ ?_ rfl,0,qp,qp,rfl⟩
 ·exact jap
 ·exact jbn):p:=h
theorem jaB{p:Prop}(h:p:=by
 refine jdw ?_
 exact yE):p:=h
theorem jaC{p:Prop}(h:p:=by
 refine⟨_,zai id _ _ ?_ ?_ rfl,0,qp,qp,rfl⟩
 ·exact jap
 ·exact trivial):p:=h
theorem jaD{p:Prop}(h:p:=by
 refine jdA ?_;refine G [7] ?_;rw[if_neg (show¬seF ⟨6,t,n,a,b⟩by simp[seF,isT,isN,isC, *])]at hE;rw[seV_6]at hE;refine G [6,3,16,3,11] ?_
 by_cases h1:t=⟨#[]⟩
 ·rw[if_pos h1]at hE;subst hE;refine G [8,4,9,9,0] ?_;exact yE
 rw[if_neg h1]at hE;refine G [8,3,4] ?_
 by_cases h2:t=zg2
 ·rw[if_pos h2]at hE;subst hE;refine G [8] ?_
  (first|refine zbR rfl ?_|refine zbN (fun n=>93+1000*n) (hZ) rfl rfl func154 rfl rfl qD rfl rfl rfl qr rfl rfl rfl ?_)
  refine G [0,4,9,9,0] ?_;exact yE
 rw[if_neg h2]at hE;refine G [8] ?_
 (first|refine zbR rfl ?_|refine zbN (fun n=>93+1000*n) (hZ) rfl rfl func154 rfl rfl qD rfl rfl rfl qr rfl rfl rfl ?_)
 refine G [0,3,4] ?_;subst hE;refine G [3,4,7] ?_;refine cV hH ?_;refine jd4 ?_
 exact yE):p:=h
theorem jaE{p:Prop}(h:p:=by
 by_cases hl:n<0
 ·rw[if_pos (.inl hl)]at hE;subst hE;refine G [6,4,3,4,14,9,0] ?_;exact yE
 refine G [6,4,3,3,8,9,0] ?_;refine cX ?_ ?_<;>intro h
 ·exact jcw
 have h1:¬65535<n:=qB;clear h;rw[if_neg (by omega)]at hE;subst hE;refine G [3,3,41,3,9,9,0] ?_
 exact yE):p:=h
theorem jaF{p:Prop}(h:p:=by
 refine fnI fun w0 A=>?_
 refine G [4] ?_
 by_cases h0:n=0
 ·subst h0;obtain rfl:xs=[]:=qbz hx;refine G [4] ?_;refine zaa (a_seqX U34) rfl rfl ?_;refine zac (zat (ze5 rfl ?_ ?_))
  ·refine jdY ?_;refine za3 (zca 2 100 5 1 rfl rfl) ?_;refine zaq (zaZ ?_);exact jbu
  ·refine G [3] ?_;refine zab (zbe 5 U34 sz5) rfl rfl ⟨rfl,trivial⟩ ?_;refine jdn ?_;refine zab (zam 7 U34 eo5 (zbc) qy qp rfl rfl) rfl rfl ⟨rfl,rfl,trivial⟩ ?_;exact jbw
 ·refine G [4] ?_;refine zaa (a_seqS U34 qp) rfl rfl ?_;refine zac (zat (cX (fun h=>?_) fun h=>?_))
  ·cases h
  ·refine G [3] ?_;refine zab (zbe 5 U34 sz5) rfl rfl ⟨rfl,trivial⟩ ?_;refine jdn ?_;refine zab (zam 7 U34 eo5 (zbc) qy qp (show _=n by omega) rfl) rfl rfl ⟨rfl,rfl,trivial⟩ ?_;refine jd4 ?_;refine yT (fun _=>7) ?_ ?_
   ·exact rfl
   ·exact jbn):p:=h
theorem jaG{p:Prop}(h:p:=by
 have hhit:=@zcx (fun i=>seE (seG rest i)) i rest.length hf hlt;have hgx:seE (seG rest i)=seE x:=by rw[seG_at hx]
 generalize rest.flatMap SE.pv=R at*;generalize seE x=e at*;obtain⟨xk,xt,xn,xa,xb⟩:=x;change Fn prog _ [.agg [.p (.v (.int .i64 xk)),.p (.v (.string xt)),.p (.v (.int .i64 xn)),.p (.v (.int .u32 xa)),.p (.v (.int .i64 xb))]] _ _ at hC;refine G [8] ?_;refine zab (zaf (Y:=.agg [.p (.v (.int .i64 xk)),.p (.v (.string xt)),.p (.v (.int .i64 xn)),.p (.v (.int .u32 xa)),.p (.v (.int .i64 xb))]) sz153 rfl rfl (qbn rfl)) rfl rfl ⟨rfl,trivial⟩ ?_
 refine G [4] ?_;refine cV hC ?_;refine jds ?_;refine cX ?_ ?_<;>intro h
 ·have h7:e≠0:=qB;rw[hrE,hhit (by rw[hgx];exact h7),hgx,if_pos h7]at hE;subst hE;exact jaB
 have h7:e=0:=qB;clear h;refine jdC ?_;refine⟨m-1,qp,_,zai id _ _ ?_ ?_ rfl,i+1,qp,fun q hq=>?_,rfl⟩
 ·exact jap
 ·exact jbn
 ·by_cases eq:q=i
  ·rw[eq,hgx];exact h7
  ·exact hf q qp):p:=h
theorem jaH{p:Prop}(h:p:=by
 skip
 refine cX ?_ ?_<;>intro h
 ·refine G [4] ?_;refine cV hEn ?_;refine G [13,9,0] ?_;refine cX ?_ ?_<;>intro h
  ·exact absurd ⟨by simp_all,by simpa using h⟩ h4
  ·exact jbW
 ·exact jbW):p:=h
theorem jaI{p:Prop}(h:p:=by
 refine⟨qO,⟨_,.nil,?_⟩,?_,?_⟩
 ·exact rfl
 ·exact jbA
 ·exact jax):p:=h
theorem jaJ{p:Prop}(h:p:=by
 exact⟨⟨rfl,rfl⟩,⟨rfl,rfl⟩,trivial⟩):p:=h
theorem jaK{p:Prop}(h:p:=by
 refine⟨m-1,qp,_,zai id _ _ ?_ ?_ rfl,i+1,false,qp,?_,?_,rfl⟩
 ·exact jap
 ·exact jbn
 ·intro h;cases h
 ·intro _;exact hsbad hno):p:=h
theorem jaL{p:Prop}(h:p:=by
 refine jdx ?_;refine jdx ?_;refine zac (zaq (zaZ ?_))
 exact jca):p:=h
theorem jaM{p:Prop}(h:p:=by
 generalize l.length=n at*;generalize m.length=k at*;refine fnI fun w0 A=>?_
 refine G [11,4,7,9,0] ?_
 exact yE):p:=h
theorem jaN{p:Prop}(h:p:=by
 have hl:k.live=false:=qB;have hE:kE k=if k.zero=true then 0 else 14:=by unfold kE;rw[if_pos hl]
 rw[hE];refine G [5] ?_;refine zaa (zcW U59 rfl rfl qq qq qq) rfl rfl ?_;refine zac (zat (cX (fun h=>?_) fun h=>?_))
 ·have hz:¬k.zero=true:=by
   intro hz;have hz':eqL k.vals KY0.vals=true:=hz;have h':(!eqL k.vals KY0.vals)=true:=h;rw[hz']at h';cases h'
  rw[if_neg hz];exact jbo
 ·have hz:k.zero=true:=by
   have h':(!eqL k.vals KY0.vals)=false:=h;show eqL k.vals KY0.vals=true;cases hq:eqL k.vals KY0.vals
   ·rw[hq]at h';cases h'
   ·rfl
  rw[if_pos hz]
  exact jaB):p:=h
theorem jaO{p:Prop}(h:p:=by
 refine jdL ?_ ?_
 ·exact jap
 ·exact jbr):p:=h
theorem jaP{p:Prop}(h:p:=by
 refine jdm ?_;refine jdC ?_;refine⟨m-1,qp,_,zai id _ _ ?_ ?_ rfl,i+1,true,qp,?_,?_,rfl⟩
 ·exact jap
 ·exact jbn
 ·intro _;refine⟨hgt,fun j hj s p hs hp=>?_⟩
  by_cases e:j=i
  ·subst e;rw[hx]at hs;rw[hy]at hp;cases hs;cases hp;exact⟨hkk,HOK⟩
  ·exact hpre j qp s p hs hp
 ·intro h;cases h):p:=h
theorem jaQ{p:Prop}(h:p:=by
 refine⟨_,zai id _ _ ?_ ?_ rfl,0,qp,qp,rfl⟩
 ·exact jap
 ·exact jaJ):p:=h
theorem jaR{p:Prop}(h:p:=by
 refine jdm ?_
 exact yE):p:=h
theorem jaS{p:Prop}(h:p:=by
 refine zab (zdF U34 U5 U9 (zbc) rfl rfl) rfl rfl trivial ?_;refine zaa (zb8 qp cL) rfl rfl ?_;refine zab (zfr 43 U9 U34 U5 qP zL xL) rfl rfl ⟨rfl,trivial⟩ ?_;refine jdY ?_;refine yT (fun _=>43) ?_ ?_
 ·exact rfl
 ·exact jbn):p:=h
theorem jaT{p:Prop}(h:p:=by
 refine jeI ?_ ?_ ?_
 ·exact rfl
 ·exact jbA
 ·exact jax):p:=h
theorem jaU{p:Prop}(h:p:=by
 refine G [1,2,4,2,4,2,1,9,0] ?_;refine cX ?_ ?_<;>intro h
 ·have h9:(at_≠⟨#[]⟩∧k1≠0)∨err<0∨14<err:=by
   simp at h;rcases h with(q|q)|q
   ·exact .inl q
   ·exact .inr (.inl q)
   ·exact .inr (.inr q)
  rw[if_pos h9]at hE;subst hE;exact jbo
 ·have h9:¬((at_≠⟨#[]⟩∧k1≠0)∨err<0∨14<err):=by
   simp at h;obtain⟨⟨q1,q2⟩,q3⟩:=h;rintro(⟨p1,p2⟩|p|p)
   ·exact p2 (q1 p1)
   ·omega
   ·omega
  rw[if_neg h9]at hE;subst hE
  exact jaB):p:=h
theorem jaV{p:Prop}(h:p:=by
 rw[BitVec.ofInt_natCast,BitVec.toNat_ofNat];exact Nat.mod_eq_of_lt qp):p:=h
theorem jaW{p:Prop}(h:p:=by
 refine jds ?_
 exact yE):p:=h
theorem jaX{p:Prop}(h:p:=by
 refine⟨_,zai (fun o=>bif Nat.beq o 101 then 21 else o) _ _ ?_ ?_ rfl,0,qp,rfl⟩
 ·exact jap
 ·exact jbr):p:=h
theorem jaY{p:Prop}(h:p:=by
 refine⟨_,zai id _ _ ?_ ?_ rfl,0,qp,qp,rfl⟩
 ·exact jap
 ·trivial):p:=h
theorem jaZ{p:Prop}(h:p:=by
 obtain⟨e1,e2⟩:=za6 (e':=macE s (4+l.size)) rfl he 32 D;rw[zbX rfl he];rw[e1,e2]at hT;generalize macE s (4+l.size)=e at hT he;refine G [9] ?_;refine je1 ?_;refine jeZ ?_;refine cV hT ?_;refine jd2 ?_;refine cX ?_ ?_<;>intro h
 ·exact jaW
 ·exact absurd qB he):p:=h
theorem ja0{p:Prop}(h:p:=by
 rw[zbX (show nonE s n=4 by unfold nonE;rw[if_pos h2]) (by omega)];refine jdm ?_;refine G [4] ?_;refine jdm ?_
 exact yE):p:=h
theorem ja1{p:Prop}(h:p:=by
 refine cX ?_ ?_<;>intro h
 ·refine G [4] ?_;refine cV hEn ?_;refine G [13,9,0] ?_;refine cX ?_ ?_<;>intro h
  ·exact jaB
  ·exact absurd qB h4.2
 ·exact absurd qB h4.1):p:=h
theorem ja2{p:Prop}(h:p:=by
 refine jdm ?_;refine G [5] ?_;refine jdm ?_
 exact yE):p:=h
theorem ja3{p:Prop}(h:p:=by
 have hge:i=l.length:=qp;subst hge;rcases hph with⟨hle,rfl⟩|⟨hgt,rfl⟩
 ·omega
 rw[qbL];refine G [2,3,5] ?_
 skip
 refine jdC ?_;refine yT (fun o=>bif Nat.beq o 0 then 100 else 102) ?_ ?_
 ·exact rfl
 ·exact⟨⟨by show Slot.live (.rowA _ 41 l.length none (arA _ s0 102 _))=Slot.live (.rowA _ 41 l.length none (AV.renL _ (arA _ s0 1 _)));rw[zcy];rfl,zeh rfl⟩,⟨rfl,rfl⟩,trivial⟩):p:=h
theorem ja4{p:Prop}(h:p:=by
 simp only[zbB]at h;simp at h
 omega):p:=h
theorem ja5{p:Prop}(h:p:=by
 refine cK hC ?_;refine jdR ?_;refine cX ?_ ?_<;>intro h
 ·exact jbo
 ·cases h):p:=h
theorem ja6{p:Prop}(h:p:=by
 refine zab (zaf (Y:=.agg (moD d (.row 11))) sz32 rfl rfl (qbn rfl)) rfl rfl ⟨rfl,trivial⟩ ?_;refine jdR ?_;refine yT (fun o=>bif Nat.beq o 0 then 11 else 1011) ?_ ?_
 ·exact rfl
 ·exact⟨⟨by show Slot.live (.rowA _ 41 d.ps.length none (AV.renL _ (arA HA s 1 TB)))=Slot.live (.rowA _ 41 d.ps.length none (AV.renL _ (arA HA s 1 TB)));rw[zcy,zcy];rfl,zeh rfl⟩,⟨rfl,rfl⟩,trivial⟩):p:=h
theorem ja7{p:Prop}(h:p:=by
 exact⟨⟨rfl,rfl⟩,⟨by show Slot.live (.rowA _ 41 i none (arA A s0 102 B))=Slot.live (.rowA _ 41 i none (AV.renL _ (arA A s0 102 B)));rw[zcy];rfl,zeh rfl⟩,⟨rfl,rfl⟩,⟨rfl,rfl⟩,trivial⟩):p:=h
theorem ja8{p:Prop}(h:p:=by
 refine zab (zix underlying168 U3 rfl (zhv 0 hm)) rfl rfl ⟨rfl,trivial⟩ ?_;refine jdC ?_;refine⟨m'-1,qp,_,zai id _ _ ?_ ?_ rfl,j+1,qp,D++[n],hDn,hdp,rfl⟩
 ·exact jap
 ·exact⟨⟨congrArg (fun x=>Slot.live (AObj.map x)) hpush,rfl⟩,⟨rfl,rfl⟩,trivial⟩):p:=h
theorem ja9{p:Prop}(h:p:=by
 refine G [2] ?_;refine⟨qO,⟨_,(.cellN _ _ _ _ _ _ _ _ _ rfl rfl U32 rfl sz32 rfl (.cellN _ _ _ _ _ _ _ _ _ rfl rfl U75 rfl sz75 rfl .nil)),rfl⟩,?_,?_⟩
 ·exact jbA
 ·exact jax):p:=h
theorem jba{p:Prop}(h:p:=by
 have hE:seE s=2:=if_pos hk;rw[hE];obtain⟨k,t,n,a,b⟩:=s;dsimp only at hk;show Fn prog _ [.agg [.p (.v (.int .i64 k)),.p (.v (.string t)),.p (.v (.int .i64 n)),.p (.v (.int .u32 a)),.p (.v (.int .i64 b))]] _ _;refine fnI fun w0 A=>?_
 refine G [15,2,1,9,0] ?_;refine cX ?_ ?_<;>intro h
 ·exact jbo
 ·exact absurd hk qw):p:=h
theorem jbb{p:Prop}(h:p:=by
 refine jd4 ?_
 exact yE):p:=h
theorem jbc{p:Prop}(h:p:=by
 refine⟨qO,⟨_,(.cellN _ _ _ _ _ _ _ _ _ rfl rfl U32 rfl sz32 rfl (.tmp _ _ _ _ rfl (.tmp _ _ _ _ rfl .nil))),rfl⟩,?_,?_⟩
 ·exact jbA
 ·exact jax):p:=h
theorem jbd{p:Prop}(h:p:=by
 have hge:i=l.length:=qw;clear h;subst hge;rw[qbL];refine jds ?_
 exact jbu):p:=h
theorem jbe{p:Prop}(h:p:=by
 obtain⟨e1,e2⟩:=za6 hE hz (n+16) (zdg s c b);rw[e1,e2];obtain⟨e1,e2⟩:=za6 (e':=strE s c n) rfl hz (n:Int).toNat (strD s c n);rw[e1,e2]at hS;generalize strE s c n=ee at hS hz;refine G [7] ?_;refine cV hS ?_;refine jd2 ?_;refine cX ?_ ?_<;>intro h
 ·exact jaW
 exact absurd qB hz):p:=h
theorem jbf{p:Prop}(h:p:=by
 rw[if_pos h5]at hE;subst hE
 exact jbo):p:=h
theorem jbg{p:Prop}(h:p:=by
 have he:padE n=1:=by unfold padE;rw[if_pos hbig]
 obtain⟨e1,e2⟩:=za6 (e':=1) he qp 32 (shaD xs);obtain⟨e3,e4⟩:=za6 (e':=1) he qp (zbE n) (zcn xs);rw[e3,e4]at hP;rw[e1,e2];refine G [8] ?_;refine cV hP ?_;refine jd2 ?_;refine cX ?_ ?_<;>intro h
 ·exact jaW
 ·cases h):p:=h
theorem jbh{p:Prop}(h:p:=by
 rw[←h6];unfold snS
 split
 ·rename_i hfr;obtain⟨_,_,_,_,k3,k4,_,_⟩:=zcw hfr;obtain⟨a1,a2,a3,a4,a5,a6,a7,a8,a9,a10,a11,a12,a13,a14⟩:=hoks.a;exact⟨rfl,⟨a1,a2,a3,a4,a5,a6,a7,a8,a9,a10,by show _≤s.a.counter+1;omega,by show s.a.counter+1≤_;omega,a13,a14⟩⟩
 ·exact⟨rfl,hoks.a⟩):p:=h
theorem jbi{p:Prop}(h:p:=by
 refine cX ?_ ?_<;>intro h
 ·exact jaB
 ·cases h):p:=h
theorem jbj{p:Prop}(h:p:=by
 refine jdA ?_;refine G [7] ?_;rw[if_neg (show¬seF ⟨7,t,n,a,b⟩by simp[seF,isT,isN,isC, *])]at hE;rw[seV_7]at hE;refine G [6,3,16,3,11] ?_;subst hE;refine G [4] ?_;refine cV hEn ?_;refine G [14,9,0] ?_
 exact yE):p:=h
theorem jbk{p:Prop}(h:p:=by
 refine⟨m-1,qp,_,zai id _ _ ?_ ?_ rfl,i+1,qp,fun j hj s hs=>?_,rfl⟩
 ·exact jap
 ·exact jbn
 ·by_cases e:j=i
  ·subst e;rw[hx]at hs;cases hs;exact HOK
  ·exact hf j qp s hs):p:=h
theorem jbl{p:Prop}(h:p:=by
 subst hE;refine G [5,3,7,4,2,4,19,9,0] ?_
 exact yE):p:=h
theorem jbm{p:Prop}(h:p:=by
 refine fnI fun w0 A=>?_
 refine G [28,9,0] ?_
 exact yE):p:=h
theorem jbn{p:Prop}(h:p:=by
 exact⟨⟨rfl,rfl⟩,trivial⟩):p:=h
theorem jbo{p:Prop}(h:p:=by
 refine jdC ?_
 exact yE):p:=h
theorem jbp{p:Prop}(h:p:=by
 obtain⟨p,hp⟩:∃p,q[j]?=some p:=⟨q[j],List.getElem?_eq_getElem hlj⟩;have hch2:=zav (f:=PQ.pv) (k:=3) (fun _=>rfl) hp;have hle2:=zaw (f:=PQ.pv) (k:=3) (fun _=>rfl) hlj;have hC:=zgu p.xs.length p.xs rfl qaA;have hpp:=zeQ q j p hp;have hjl:((q.take j).flatMap PQ.pv).length=j*3:=qR;generalize hQ:q.flatMap PQ.pv=Q at*;generalize (q.take j).flatMap PQ.pv=V at*;obtain⟨pa,pb,xs⟩:=p;dsimp only at hC hpp;refine G [2,4,9] ?_
 refine je0 ?_;refine zab (zaT 8 zr36 rfl) rfl rfl ⟨rfl,trivial⟩ ?_
 exact jau):p:=h
theorem jbq{p:Prop}(h:p:=by
 obtain⟨p,hp⟩:∃p,q[j]?=some p:=⟨q[j],List.getElem?_eq_getElem hlj⟩;have hch2:=zav (f:=PQ.pv) (k:=3) (fun _=>rfl) hp;have hle2:=zaw (f:=PQ.pv) (k:=3) (fun _=>rfl) hlj;have hxl:=hqx p (qbo hp);have hpp:=zeQ q j p hp;have hjl:((q.take j).flatMap PQ.pv).length=j*3:=qR;generalize hQ:q.flatMap PQ.pv=Q at*;generalize (q.take j).flatMap PQ.pv=V at*;obtain⟨pa,pb,xs⟩:=p;dsimp only at hpp hxl;refine G [2,4,9] ?_
 refine je0 ?_;refine zab (zaT 8 zr36 rfl) rfl rfl ⟨rfl,trivial⟩ ?_
 exact jas):p:=h
theorem jbr{p:Prop}(h:p:=by
 exact⟨⟨rfl,rfl⟩,⟨rfl,rfl⟩,⟨rfl,rfl⟩,trivial⟩):p:=h
theorem jbs{p:Prop}(h:p:=by
 refine jdV ?_
 exact yE):p:=h
theorem jbt{p:Prop}(h:p:=by
 refine cK hC ?_;refine jdR ?_;refine cX ?_ ?_<;>intro h
 ·cases h
 refine jdC ?_
 exact jaw):p:=h
theorem jbu{p:Prop}(h:p:=by
 refine yT (fun _=>100) ?_ ?_
 ·exact rfl
 ·exact jbn):p:=h
theorem jbv{p:Prop}(h:p:=by
 rw[if_pos h7]at hst;rw[hhit (by rw[hst];exact h7),hst]at hE;subst hE
 exact jaB):p:=h
theorem jbw{p:Prop}(h:p:=by
 refine jd4 ?_;refine yT (fun _=>7) ?_ ?_
 ·exact rfl
 ·exact jbn):p:=h
theorem jbx{p:Prop}(h:p:=by
 refine⟨m-1,qp,_,zai id _ _ ?_ ?_ rfl,i+1,qp,fun j hj=>?_,rfl⟩
 ·exact jap
 ·trivial
 ·by_cases ej:j=i
  ·rw[ej,hfi,if_neg h6]
  ·exact hf j qp):p:=h
theorem jby{p:Prop}(h:p:=by
 refine jdA ?_;refine G [7] ?_;rw[if_neg (show¬seF ⟨1,t,n,a,b⟩by simp[seF,isT,isN,isC, *])]at hE;rw[seV_1]at hE;refine G [6,3,16,3,38] ?_;subst hE;refine G [3,4,7] ?_;refine cV hH ?_
 exact jbb):p:=h
theorem jbz{p:Prop}(h:p:=by
 refine jdA ?_;refine G [7] ?_;rw[if_neg (show¬seF ⟨4,t,n,a,b⟩by simp[seF,isT,isN,isC, *])]at hE;rw[seV_4]at hE;refine G [6,3,16,3,38] ?_;subst hE;refine G [3,4,7] ?_;refine cV hH ?_
 exact jbb):p:=h
theorem jbA{p:Prop}(h:p:=by
 (repeat(first|exact trivial|refine⟨rfl,?_⟩))):p:=h
theorem jbB{p:Prop}(h:p:=by
 exact⟨⟨by show Slot.live (.rowA _ 41 (i+1) none (arA A s0 102 B++stC key ep a b c hh q.length (q.flatMap PQ.pv)))=Slot.live (.rowA _ 41 (i+1) none (AV.renL _ (arA A s0 102 (((l.take (i+1)).drop (i0+1)).flatMap ST.pv))));rw[zcy,←hdp,←arA_app];rfl,zeh rfl⟩,⟨rfl,rfl⟩,trivial⟩):p:=h
theorem jbC{p:Prop}(h:p:=by
 intro j hj;obtain⟨r,hr⟩:∃r,nets[j]?=some r:=⟨nets[j],List.getElem?_eq_getElem qp⟩;have:ntG nets j=r:=by unfold ntG;rw[List.getD_eq_getElem?_getD,hr];rfl
 rw[this]
 exact⟨zav (f:=ntC) (k:=2) (fun _=>rfl) hr,zaw (f:=ntC) (k:=2) (fun _=>rfl) qp⟩):p:=h
theorem jbD{p:Prop}(h:p:=by
 exact⟨⟨by show Slot.live (.rowA _ 41 (i+1) none (T.map AV.p++stA key ep a b c hh (.row 101)))=Slot.live (.rowA _ 41 (i+1) none (AV.renL _ (arA T ⟨key,ep,a,b,c,hh,q⟩ 102 _)));rw[hd0,zcy];unfold arA;rw[List.map_nil,List.append_nil];rfl,zeh rfl⟩,⟨rfl,rfl⟩,trivial⟩):p:=h
theorem jbE{p:Prop}(h:p:=by
 subst htR;refine jdm ?_
 exact zfu _ qv):p:=h
theorem jbF{p:Prop}(h:p:=by
 skip
 refine jdC ?_
 exact zai id _ _ ⟨⟨rfl,rfl⟩,⟨rfl,rfl⟩,⟨rfl,rfl⟩,⟨rfl,rfl⟩,trivial⟩ ⟨⟨rfl,rfl⟩,trivial⟩ rfl):p:=h
theorem jbG{p:Prop}(h:p:=by
 subst hE;refine G [5,3,7,3,9] ?_
 exact jav):p:=h
theorem jbH{p:Prop}(h:p:=by
 generalize x1.length=n1 at*;generalize x2.length=n2 at*;refine fnI fun w0 A=>?_
 refine G [19,2,5] ?_;refine mb2 _ rfl rfl (fun _=>zbl func37 rfl rfl (hS) qD rfl) (fun _=>trivial) ?_
 exact jc9):p:=h
theorem jbI{p:Prop}(h:p:=by
 rw[if_pos h1]at hE;rw[zfk hE h1];rw[zbX rfl h1]at hS;generalize secE a b sh=e at*;refine fnI fun w0 A=>?_
 refine G [10] ?_;refine cV hS ?_;refine jd2 ?_;refine cX ?_ ?_<;>intro h
 ·exact jbs
 ·exact absurd qB h1):p:=h
theorem jbJ{p:Prop}(h:p:=by
 simp only[Option.some.injEq]at e;subst e;obtain⟨b',us,rfl,h2,h3,h4,h5⟩:=hO;obtain rfl:b'=b:=qav;rw[zkd ha]at h3;simp only[PRep]
 exact⟨b',0,us,rfl,.inr rfl,PRepL.mono (fun _ h=>.inl h) (fun _ _=>rfl) _ _ (zcQ h3),zc6 h5⟩):p:=h
theorem jbK{p:Prop}(h:p:=by
 refine jds ?_;refine yT (fun _=>5) ?_ ?_
 ·exact rfl
 ·exact jbn):p:=h
theorem jbL{p:Prop}(h:p:=by
 rw[if_pos h3,if_pos h3]at hE;obtain⟨g1,g2⟩:=zbI rfl h3;rw[g1,g2]at hN;subst hE;generalize hexE nc=he at*;refine G [6] ?_;refine cV hN ?_;refine G [11,9,0] ?_;refine cX ?_ ?_<;>intro h
 ·exact jaB
 ·exact absurd qB h3):p:=h
theorem jbM{p:Prop}(h:p:=by
 refine jdA ?_;refine G [7] ?_;rw[if_neg (show¬seF ⟨2,t,n,a,b⟩by simp[seF,isT,isN,isC, *])]at hE;rw[seV_2]at hE
 exact jaE):p:=h
theorem jbN{p:Prop}(h:p:=by
 refine jdA ?_;refine G [7] ?_;rw[if_neg (show¬seF ⟨8,t,n,a,b⟩by simp[seF,isT,isN,isC, *])]at hE;rw[seV_8]at hE
 exact jaE):p:=h
theorem jbO{p:Prop}(h:p:=by
 refine fnI fun w0 A=>?_
 refine G [13,9,0] ?_;refine cX ?_ ?_<;>intro h
 ·have h1:200<n:=qw;rw[if_pos h1];exact jbo
 ·have h1:¬200<n:=qw;rw[if_neg h1]
  exact jaB):p:=h
theorem jbP{p:Prop}(h:p:=by
 have hex:(execOp ev ⟨d,.mapUpdate t x y z,ty,pos,af,g⟩).run P w=.ok .skip w':=by
  simp only[execOp,zbb h2,zbb h3,qbw,hrun,qbr];rfl
 unfold Out;rw[hex]
 exact⟨S,m,by simp only[Rep],q1,q2⟩):p:=h
theorem jbQ{p:Prop}(h:p:=by
 have h3:c<0∨1099511627776<c∨n<0∨232<n:=by simpa[or_assoc]using h
 obtain⟨e1,e2⟩:=za6 (show strE s c n=4 by unfold strE;rw[if_pos h2,if_pos h3]) qp n.toNat (strD s c n);rw[e1,e2]
 exact jaB):p:=h
theorem jbR{p:Prop}(h:p:=by
 rw[if_pos h1]at hE;subst hE
 exact jaB):p:=h
theorem jbS{p:Prop}(h:p:=by
 rw[show(2:Int)^min (8:Int).toNat IntKind.i64.bits=256 from rfl,qbG _ (by omega)];omega):p:=h
theorem jbT{p:Prop}(h:p:=by
 exact⟨⟨rfl,rfl⟩,⟨rfl,rfl⟩,⟨rfl,rfl⟩,⟨rfl,rfl⟩,trivial⟩):p:=h
theorem jbU{p:Prop}(h:p:=by
 by_cases eq:q=i
 ·rw[eq];exact hst
 ·exact hf q qp):p:=h
theorem jbV{p:Prop}(h:p:=by
 refine zab (zaf (Y:=.agg (moD d (.row 11))) sz32 rfl rfl (qbn rfl)) rfl rfl ⟨rfl,trivial⟩ ?_;refine jdR ?_;refine yT (fun _=>11) ?_ ?_
 ·exact rfl
 ·exact jbn):p:=h
theorem jbW{p:Prop}(h:p:=by
 refine zal (zat ?_)
 exact jar):p:=h
theorem jbX{p:Prop}(h:p:=by
 rw[if_neg (by omega)]at hst;refine G [4,3,12,9,0] ?_;refine cX ?_ ?_<;>intro h
 ·cases h
 refine jdC ?_;refine hnext _ hst (zai id _ _ ?_ ?_ rfl)
 ·exact jap
 ·exact jbn):p:=h
theorem jbY{p:Prop}(h:p:=by
 subst hE;refine G [5,4,2,4,27,9,0] ?_
 exact yE):p:=h
theorem jbZ{p:Prop}(h:p:=by
 show AV.p (.v (.int .i64 (7-(k:Int)-1)))=AV.p (.v (.int .i64 (7-((k+1:Nat):Int))))
 congr 3;omega):p:=h
theorem jb0{p:Prop}(h:p:=by
 have h2:¬s.size%2=0:=qw;refine jdw ?_;obtain⟨e1,e2⟩:=zbI (s:=s) (e:=3) (by unfold hexE;rw[if_neg (by omega),if_neg h2]) qp;rw[e1,e2]
 exact yE):p:=h
theorem jb1{p:Prop}(h:p:=by
 refine G [5] ?_;refine cX ?_ ?_<;>intro h
 ·simp at h
 ·refine G [3] ?_;refine zbp (w3) rfl rfl func147 rfl rfl qL rfl ?_
  exact jbb):p:=h
theorem jb2{p:Prop}(h:p:=by
 refine jeU ?_
 exact ja5):p:=h
theorem jb3{p:Prop}(h:p:=by
 have h2:1000<n:=qw;refine jdw ?_;obtain⟨e1,e2⟩:=za6 (e':=1) (show padE n=1 by unfold padE;rw[if_pos h2]) qp (zbE n) (zcn xs);rw[e1,e2]
 exact yE):p:=h
theorem jb4{p:Prop}(h:p:=by
 cases i with
 |zero=>exact .inl rfl
 |succ j=>exact .inr ⟨j,rfl⟩):p:=h
theorem jb5{p:Prop}(h:p:=by
 exact zai id _ _ ⟨⟨rfl,rfl⟩,⟨rfl,rfl⟩,⟨rfl,rfl⟩,⟨rfl,rfl⟩,⟨rfl,rfl⟩,⟨rfl,rfl⟩,⟨rfl,rfl⟩,trivial⟩ ⟨⟨rfl,rfl⟩,⟨rfl,rfl⟩,trivial⟩ rfl):p:=h
theorem jb6{p:Prop}(h:p:=by
 refine⟨_,zai id _ _ qv qv rfl,0,qp,rfl⟩):p:=h
theorem jb7{p:Prop}(h:p:=by
 unfold pkt at h;rw[show((p.a.toNat:Nat):Int)=p.a by omega,show((p.b.toNat:Nat):Int)=p.b by omega,←zeV p.a.toNat p.b.toNat p.xs.length p.xs rfl]at h
 exact zfq h rfl rfl):p:=h
theorem jb8{p:Prop}(h:p:=by
 rw[qbs h1,h2,qbV]
 simp):p:=h
theorem jb9{p:Prop}(h:p:=by
 have h4:ep≠⟨#[]⟩∧e1≠0:=qB;rw[if_pos h4]at hE;subst hE
 exact jaB):p:=h
theorem jca{p:Prop}(h:p:=by
 refine fT (fun o=>o) (.tmp _ _ _ _ rfl (.tmp _ _ _ _ rfl .nil)) ?_ ?_
 ·exact rfl
 ·exact trivial):p:=h
theorem jcb{p:Prop}(h:p:=by
 refine⟨m-1,qp,_,zai id _ _ ?_ ?_ rfl,i+1,false,qp,?_,?_,rfl⟩
 ·exact jap
 ·exact jbn
 ·intro h;cases h
 ·intro _;exact hkbad hkk):p:=h
theorem jcc{p:Prop}(h:p:=by
 subst hE;refine G [9,4,27,9,0] ?_
 exact yE):p:=h
theorem jcd{p:Prop}(h:p:=by
 refine je6 ?_;show AV.p (.v (.int .i64 ((w:Int)-1)))=AV.p (.v (.int .i64 ((w:Int)-1-((0:Nat):Int))))
 congr 3;omega):p:=h
theorem jce{p:Prop}(h:p:=by
 rw[if_neg (show¬seF ⟨10,t,n,a,b⟩by simp[seF,isT,isN,isC, *])]at hE;rw[seV_10]at hE;refine G [6,3,16,4,3] ?_;subst hE;refine G [4] ?_;refine cV hC ?_
 exact jbb):p:=h
theorem jcf{p:Prop}(h:p:=by
 refine fnI fun w0 A=>?_
 refine G [8] ?_;refine cK hC ?_
 exact jbb):p:=h
theorem jcg{p:Prop}(h:p:=by
 have h2:2000<s.size:=qw;refine jdw ?_;obtain⟨e1,e2⟩:=zbI (s:=s) (e:=1) (by unfold hexE;rw[if_pos h2]) qp;rw[e1,e2]
 exact yE):p:=h
theorem jch{p:Prop}(h:p:=by
 have h3:936<n:=qw;obtain⟨e1,e2⟩:=za6 (show macE s n=1 by unfold macE;rw[if_pos h2,if_pos h3]) qp 32 (macD s b);rw[e1,e2]
 exact jaB):p:=h
theorem jci{p:Prop}(h:p:=by
 refine zal (zat ?_)
 exact zai id _ _ qU trivial rfl):p:=h
theorem jcj{p:Prop}(h:p:=by
 have h2:keyE s≠0:=qB;obtain⟨e1,e2⟩:=za6 (show strE s c n=keyE s by unfold strE;rw[if_neg h2]) h2 n.toNat (strD s c n);rw[e1,e2]
 exact jaW):p:=h
theorem jck{p:Prop}(h:p:=by
 generalize wE m=e at*;refine fnI fun w0 A=>?_
 refine G [10] ?_;refine cV hC ?_;refine jds ?_;refine cX ?_ ?_<;>intro h
 ·exact jaW
 ·simp at h;omega):p:=h
theorem jcl{p:Prop}(h:p:=by
 have h6:6<l.length:=qw;rw[if_pos h6]at hE;subst hE
 exact jbo):p:=h
theorem jcm{p:Prop}(h:p:=by
 refine jeU ?_
 exact jbt):p:=h
theorem jcn{p:Prop}(h:p:=by
 rw[if_pos ⟨by omega,h8⟩]at hst;rw[hhit (by rw[hst];decide),hst]at hE;subst hE
 exact jbo):p:=h
theorem jco{p:Prop}(h:p:=by
 have h2:220<n:=qw;obtain⟨e1,e2⟩:=za6 (show zc1 s c n=1 by unfold zc1;rw[if_pos h2]) qp (n+16) (zdg s c b);rw[e1,e2]
 exact jaB):p:=h
theorem jcp{p:Prop}(h:p:=by
 subst hE;refine G [5,4,2,3,4,4,2,4,19,9,0] ?_
 exact yE):p:=h
theorem jcq{p:Prop}(h:p:=by
 have h5:mine<1∨4294967295<mine∨hb<0∨hs<hb∨1099511627776<hs:=qw;rw[if_pos h5,if_pos (by decide)]at hE;subst hE
 exact jbo):p:=h
theorem jcr{p:Prop}(h:p:=by
 have hg:=zgY h0;have h1:=(zgC hg (fun p hp=>(ok.c.ps p hp).1) d.c.ps.length (Nat.le_refl _)).l;have h2:=zeS hg (Nat.le_refl d.c.ps.length);have h6:=hg.n6
 omega):p:=h
theorem jcs{p:Prop}(h:p:=by
 have h2:keyE s≠0:=qB;obtain⟨e1,e2⟩:=za6 (show macE s n=keyE s by unfold macE;rw[if_neg h2]) h2 32 (macD s b);rw[e1,e2]
 exact jaW):p:=h
theorem jct{p:Prop}(h:p:=by
 apply qcG;intro j;rw[List.getElem?_set]
 by_cases e:i=j
 ·subst e;obtain⟨h1,h2⟩:=qbl.1 h;simp[h1,h2]
 ·simp[e]):p:=h
theorem jcu{p:Prop}(h:p:=by
 have hne:x.fault≠0:=qa6
 have hE:zcu l=F:=by
  unfold zcu;have:=zij hx hj hne;rw[this,if_pos hne,hF]
 rw[hE]
 exact jaB):p:=h
theorem jcv{p:Prop}(h:p:=by
 have h8:=(zgX h0).2.2.2.1;have h9:=zjL (d.ps.map four);unfold zfv mostD at h8
 omega):p:=h
theorem jcw{p:Prop}(h:p:=by
 have h1:65535<n:=qB;rw[if_pos (.inr h1)]at hE;subst hE
 exact jbo):p:=h
theorem jcx{p:Prop}(h:p:=by
 refine fnI fun w0 A=>?_
 refine G [8] ?_;refine zaa (a_neg qN) rfl rfl ?_;refine cV (rotL_s x n) ?_
 exact jbb):p:=h
theorem jcy{p:Prop}(h:p:=by
 intro y hy;simp only[qbD]at hy;rcases hy with((h0|h1)|h2)|h3
 ·simp at h0;omega
 ·exact ziz _ _ _ h1
 ·exact ziz _ _ _ h2
 ·exact hB _ h3):p:=h
theorem jcz{p:Prop}(h:p:=by
 exact⟨rfl,zai id _ _ qU trivial rfl⟩):p:=h
theorem jcA{p:Prop}(h:p:=by
 by_cases h0:sh=⟨#[]⟩
 ·rw[h0];exact qc3 _
 ·by_cases hk:keyE sh=0
  ·exact Nat.le_of_eq (zct hk).1
  ·exact absurd ⟨h0,hk⟩ hbad):p:=h
theorem jcB{p:Prop}(h:p:=by
 rw[hnx];show AV.p (.v (.int .u32 ((a:Int)*256+v)))=AV.p (.v (.int .u32 ((a*256+v:Nat):Int)))
 first|rfl|(congr 3;omega)|congr 3):p:=h
theorem jcC{p:Prop}(h:p:=by
 simp only[Instr.mapUpdate,qbw,run_underlying hu,qbr,MapKept.run_getObj_map g2,hck,hfk]
 exact MapKept.run_setObj_map _ g2):p:=h
theorem jcD{p:Prop}(h:p:=by
 refine fT (fun o=>o) (.tmp _ _ _ _ rfl .nil) ?_ ?_
 ·exact rfl
 ·exact trivial):p:=h
theorem jcE{p:Prop}(h:p:=by
 match i,h with
 |0,_=>rfl
 |1,_=>rfl
 |2,_=>rfl):p:=h
theorem jcF{p:Prop}(h:p:=by
 refine⟨_,zai (fun _=>13) _ _ ?_ ?_ rfl,0,qp,rfl⟩
 ·exact jap
 ·rw[show zeU xs 0=xs++[128]by simp[zeU],←zce]
  exact jbn):p:=h
theorem jcG{p:Prop}(h:p:=by
 rw[qbR]at this
 simpa[PE.pv]using this):p:=h
theorem jcH{p:Prop}(h:p:=by
 have hz:=seal_good h hn;obtain⟨e1,e2⟩:=zgk hz (ksK k) (b.length+16) (zdg k.send k.counter b);rw[e1,e2]at h1
 exact zfq h1 rfl rfl):p:=h
theorem jcI{p:Prop}(h:p:=by
 refine fnI fun w0 A=>?_
 refine jd2 ?_;refine cX ?_ ?_<;>intro h
 ·simp[hz]at h
 refine G [4] ?_;refine cV hB ?_
 exact jaB):p:=h
theorem jcJ{p:Prop}(h:p:=by
 rw[hR2 (by rw[hE];intro ⟨q1,q2,q3,q4⟩;simp at h;omega)]
 exact jaW):p:=h
theorem jcK{p:Prop}(h:p:=by
 have h5:3<q.length:=qw
 exact jbf):p:=h
theorem jcL{p:Prop}(h:p:=by
 have g1:d2=d:=by rw[←hd2,hbf];rfl
 have g2:L2=L1:=by rw[←hL2,hbf];rfl
 rw[g1,g2,if_neg (by rw[hbf];simp)]
 exact jbW):p:=h
theorem jcM{p:Prop}(h:p:=by
 obtain⟨e1,e2⟩:=zbI (s:=s) (e:=3) (by unfold hexE;rw[if_neg (by omega),if_pos hev,if_neg hb]) qp;rw[e1,e2]
 exact yE):p:=h
theorem jcN{p:Prop}(h:p:=by
 rw[if_pos h6]at hC hfi;rw[hhit (by rw[hfi];decide),hfi]at hE;subst hE;refine G [3] ?_;refine cK hC ?_;refine G [14,9,0] ?_
 exact yE):p:=h
theorem jcO{p:Prop}(h:p:=by
 clear h;subst hge;rw[zdc hf]at hE;subst hE
 exact jaB):p:=h
theorem jcP{p:Prop}(h:p:=by
 exact⟨⟨zbD rfl,zcU _ _⟩,⟨zbD rfl,zcU _ _⟩,⟨zbD rfl,zcU _ _⟩,⟨zbD rfl,zcU _ _⟩,⟨zbD rfl,zcU _ _⟩,trivial⟩):p:=h
theorem jcQ{p:Prop}(h:p:=by
 refine G [6,3,16,3,38] ?_;subst hE;refine G [3,3,9,9,0] ?_
 exact yE):p:=h
theorem jcR{p:Prop}(h:p:=by
 show AV.p (.v (.int .i64 ((w:Int)-1-(k:Int)-1)))=AV.p (.v (.int .i64 ((w:Int)-1-((k+1:Nat):Int))))
 congr 3;omega):p:=h
theorem jcS{p:Prop}(h:p:=by
 subst hE;refine G [5,4,2,3,4,3,9] ?_
 exact jav):p:=h
theorem jcT{p:Prop}(h:p:=by
 subst hE;refine G [9,3,7,4,19,9,0] ?_
 exact yE):p:=h
theorem jcU{p:Prop}(h:p:=by
 refine zbp (hS) rfl rfl func62 rfl rfl qL rfl ?_;refine zac ?_
 skip
 exact jaI):p:=h
theorem jcV{p:Prop}(h:p:=by
 rw[hlo2,hhi2];rcases hlo with⟨h1,h2⟩|⟨h1,h2⟩<;>rw[h1,h2]
 ·exact⟨az,aE,bz,bE⟩
 ·exact⟨bz,bE,az,aE⟩):p:=h
theorem jcW{p:Prop}(h:p:=by
 obtain⟨e1,e2,e3⟩:=join_key p q hp hq;unfold joinN at e2;unfold joinA at e3;rw[if_pos e1]at e2 e3;rw[e3,e2]at h
 exact h):p:=h
theorem jcX{p:Prop}(h:p:=by
 have h2:¬s.size=64:=qw;refine jdC ?_;rw[show keyE s=1 by unfold keyE;rw[if_neg h2]]
 exact yE):p:=h
theorem jcY{p:Prop}(h:p:=by
 have:=zeV p.a.toNat p.b.toNat p.xs.length p.xs rfl;unfold pkB
 omega):p:=h
theorem jcZ{p:Prop}(h:p:=by
 exact⟨⟨zbD rfl,zcU _ _⟩,⟨zbD rfl,zcU _ _⟩,trivial⟩):p:=h
theorem jc0{p:Prop}(h:p:=by
 rw[if_pos h1]at hE;subst hE
 exact jbo):p:=h
theorem jc1{p:Prop}(h:p:=by
 refine cV hC ?_;refine jds ?_;refine cX ?_ ?_<;>intro h
 ·exact jaW
 ·exact absurd qB h1):p:=h
theorem jc2{p:Prop}(h:p:=by
 have h1:k1≠0:=qB
 exact jbR):p:=h
theorem jc3{p:Prop}(h:p:=by
 have h7:e≠0:=qB
 exact jbv):p:=h
theorem jc4{p:Prop}(h:p:=by
 subst hE;refine G [16,4,19,9,0] ?_
 exact yE):p:=h
theorem jc5{p:Prop}(h:p:=by
 rw[if_pos h1]at h;exact absurd h h1):p:=h
theorem jc6{p:Prop}(h:p:=by
 refine⟨_,zai id _ _ ?_ ?_ rfl,0,qp,allT l i,qp,hDD.symm,qG,rfl⟩
 ·exact jap
 ·exact jbn):p:=h
theorem jc7{p:Prop}(h:p:=by
 show AV.p (.v (.int .i64 ((q/256:Nat):Int)))=AV.p (.v (.int .i64 ((n/256^(k+1):Nat):Int)))
 rw[hnx]):p:=h
theorem jc8{p:Prop}(h:p:=by
 simp at hq;obtain⟨⟨h1,h2⟩,h3⟩:=hq;have h4:=zjG hx hy h3;dsimp only at h4
 exact h (by rw[h1,h2,h4])):p:=h
theorem jc9{p:Prop}(h:p:=by
 refine G [0,2,3,9,0] ?_
 exact yE):p:=h
theorem jda{p:Prop}(h:p:=by
 rw[qbs q1,q2]):p:=h
theorem jdb{p:Prop}(h:p:=by
 have h2:nc.size≠16:=qw;rw[if_pos h2,if_pos (by decide)]at hE;subst hE
 exact jbo):p:=h
theorem jdc{p:Prop}(h:p:=by
 refine jd2 ?_;refine cX ?_ ?_<;>intro h
 ·exact jbs
 ·exact absurd qB h2):p:=h
theorem jdd{p:Prop}(h:p:=by
 exact absurd h qah):p:=h
theorem jde{p:Prop}(h:p:=by
 refine jdL ?_ ?_
 ·exact jap
 ·rw[zfJ,List.append_nil]
  exact jaJ):p:=h
theorem jdf{p:Prop}(h:p:=by
 have h':=h;rw[hEq]at h'
 simpa using h'):p:=h
theorem jdg{p:Prop}(h:p:=by
 exact⟨l,k3,by rw[k1];exact hb.1,by rw[k1,k2]⟩):p:=h
theorem jdh{p:Prop}(h:p:=by
 refine zad (tx (jdn ?_))
 exact jaL):p:=h
theorem jdi{p:Prop}(h:p:=by
 have:reachBytes≤140737488351232:=qbk rfl
 constructor<;>simp only<;>omega):p:=h
theorem jdj{p:Prop}(h:p:=by
 obtain⟨j,hj1,rfl⟩:=qcp.1 hx
 exact hj j hj1 _ (List.getElem?_eq_getElem hj1)):p:=h
theorem jdk{p:Prop}(h:p:=by
 refine⟨_,zai id _ _ ?_ ?_ rfl,0,qp,fun j hj=>by omega,rfl⟩
 ·exact jap
 ·exact jbn):p:=h
theorem jdl{p q:Prop}(k:q)(h:Bx q→p:=by intro xj0;refine zab (xs:=[.p (.v (.string ⟨#[]⟩)),.p (.v (.string ⟨#[116]⟩)),.p (.v (.string ⟨#[110]⟩)),.p (.v (.string ⟨#[]⟩)),.p (.v (.string ⟨#[116]⟩)),.p (.v (.string ⟨#[]⟩)),.p (.v (.string ⟨#[116]⟩)),.p (.v (.string ⟨#[116]⟩)),.p (.v (.string ⟨#[110]⟩)),.p (.v (.string ⟨#[]⟩)),.p (.v (.string ⟨#[99]⟩))]) (zae (es:=[.p (.v (.string ⟨#[]⟩)),.p (.v (.string ⟨#[116]⟩)),.p (.v (.string ⟨#[110]⟩)),.p (.v (.string ⟨#[]⟩)),.p (.v (.string ⟨#[116]⟩)),.p (.v (.string ⟨#[]⟩)),.p (.v (.string ⟨#[116]⟩)),.p (.v (.string ⟨#[116]⟩)),.p (.v (.string ⟨#[110]⟩)),.p (.v (.string ⟨#[]⟩)),.p (.v (.string ⟨#[99]⟩))]) (cs:=[.v (.string ⟨#[]⟩),.v (.string ⟨#[116]⟩),.v (.string ⟨#[110]⟩),.v (.string ⟨#[]⟩),.v (.string ⟨#[116]⟩),.v (.string ⟨#[]⟩),.v (.string ⟨#[116]⟩),.v (.string ⟨#[116]⟩),.v (.string ⟨#[110]⟩),.v (.string ⟨#[]⟩),.v (.string ⟨#[99]⟩)]) 15 U208 sz9 zc9 (qbk rfl) (qbk rfl) rfl qq qq qq (qbk rfl)) qF rfl ⟨rfl,trivial⟩ ?_;exact xj0.o):p:=h ⟨k⟩
theorem jdm{p q:Prop}(k:q)(h:Bx q→p:=by intro xj0;(repeat(first|refine zad ?_|refine zaj ?_|refine zal ?_|refine zaq ?_|refine zar ?_|refine zat ?_|refine zaZ ?_|refine za8 ?_|refine zaW ?_|refine zbd ?_|refine zbi ?_|refine zbq rfl ?_));exact xj0.o):p:=h ⟨k⟩
theorem jdn{p q:Prop}(k:q)(h:Bx q→p:=by intro xj0;refine mP rfl rfl ?_;exact xj0.o):p:=h ⟨k⟩
theorem jdo{p q:Prop}(k:q)(h:Bx q→p:=by intro xj0;refine zab (zak U32 rfl sz32 qu (show _=d.cells from rfl)) rfl rfl ⟨rfl,trivial⟩ ?_;exact xj0.o):p:=h ⟨k⟩
theorem jdp{p q:Prop}(k:q)(h:Bx q→p:=by intro xj0;refine zab (zak U36 rfl sz36 qu (show _=p.cells from rfl)) rfl rfl ⟨rfl,trivial⟩ ?_;exact xj0.o):p:=h ⟨k⟩
theorem jdq{p q:Prop}(k:q)(h:Bx q→p:=by intro xj0;refine zab (zak U24 rfl sz24 qu (show _=d.c.cells from rfl)) rfl rfl ⟨rfl,trivial⟩ ?_;exact xj0.o):p:=h ⟨k⟩
theorem jdr{p q:Prop}(k:q)(h:Bx q→p:=by intro xj0;refine zaa (zap U233 sz33 qp qp qE) rfl rfl ?_;exact xj0.o):p:=h ⟨k⟩
theorem jds{p q:Prop}(k:q)(h:Bx q→p:=by intro xj0;refine G [7,9,0] ?_;exact xj0.o):p:=h ⟨k⟩
theorem jdt{p q:Prop}(k:q)(h:Bx q→p:=by intro xj0;refine zaa (zbf qN) rfl rfl ?_;exact xj0.o):p:=h ⟨k⟩
theorem jdu{p q:Prop}(k:q)(h:Bx q→p:=by intro xj0;refine zab (zak U66 rfl sz66 qu (show _=stC key ep a b c hh q.length (q.flatMap PQ.pv)from rfl)) rfl rfl ⟨rfl,trivial⟩ ?_;exact xj0.o):p:=h ⟨k⟩
theorem jdv{p q:Prop}(k:q)(h:Bx q→p:=by intro xj0;refine zab (zaf (Y:=.agg (stC key ep a b c hh q.length (q.flatMap PQ.pv))) sz66 rfl rfl (qbn rfl)) rfl rfl ⟨rfl,trivial⟩ ?_;exact xj0.o):p:=h ⟨k⟩
theorem jdw{p q:Prop}(k:q)(h:Bx q→p:=by intro xj0;refine G [6,9,0] ?_;exact xj0.o):p:=h ⟨k⟩
theorem jdx{p q:Prop}(k:q)(h:Bx q→p:=by intro xj0;refine aP rfl rfl ?_;exact xj0.o):p:=h ⟨k⟩
theorem jdy{p q:Prop}(k:q)(h:Bx q→p:=by intro xj0;refine zab (zak U61 rfl sz61 qu (show _=zd3 a b c from rfl)) rfl rfl ⟨rfl,trivial⟩ ?_;exact xj0.o):p:=h ⟨k⟩
theorem jdz{p q:Prop}(k:q)(h:Bx q→p:=by intro xj0;refine zaa (zah (r:=.row _)) rfl rfl ?_;exact xj0.o):p:=h ⟨k⟩
theorem jdA{p q:Prop}(k:q)(h:Bx q→p:=by intro xj0;refine zaa (zaK U101 rfl rfl qq qq qq (c:=false) (by rw[zbB];simp[hq])) rfl rfl ?_;exact xj0.o):p:=h ⟨k⟩
theorem jdB{p q:Prop}(k:q)(h:Bx q→p:=by intro xj0;refine zaa (zfs qp (by first|exact IntWalk.i64_quo _ _ qp|rfl)) rfl rfl ?_;exact xj0.o):p:=h ⟨k⟩
theorem jdC{p q:Prop}(k:q)(h:Bx q→p:=by intro xj0;refine G [5,9,0] ?_;exact xj0.o):p:=h ⟨k⟩
theorem jdD{p q:Prop}(k:q)(h:Bx q→p:=by intro xj0;refine zab (zak U32 rfl sz32 qu (show _=moD d (.row 1)from rfl)) rfl rfl ⟨rfl,trivial⟩ ?_;exact xj0.o):p:=h ⟨k⟩
theorem jdE{p q:Prop}(k:q)(h:Bx q→p:=by intro xj0;refine zaa (ziv qp (by first|exact IntWalk.rem_in _ _ qp|rfl)) rfl rfl ?_;exact xj0.o):p:=h ⟨k⟩
theorem jdF{p q:Prop}(k:q)(h:Bx q→p:=by intro xj0;refine l1 U33 rfl rfl rfl ⟨rfl,trivial⟩ ?_;exact xj0.o):p:=h ⟨k⟩
theorem jdG{p q:Prop}(k:q)(h:Bx q→p:=by intro xj0;refine zab (xs:=[.agg [.p (.v (.int .u32 pa)),.p (.v (.int .u32 pb)),.p (.sl xs.length 1 (bs xs))]]) (zae (es:=[.p (.v (.int .u32 pa)),.p (.v (.int .u32 pb)),.p (.sl xs.length 1 (bs xs))]) (cs:=[.v (.int .u32 pa),.v (.int .u32 pb),.sl xs.length 1 (bs xs)]) 34 U64 sz36 zc36 (qbk rfl) (qbk rfl) rfl qq qq qq (qbk rfl)) qF rfl ⟨rfl,trivial⟩ ?_;exact xj0.o):p:=h ⟨k⟩
theorem jdH{p q:Prop}(k:q)(h:Bx q→p:=by intro xj0;refine zab (zak U66 rfl sz66 qu (show _=s.cells from rfl)) rfl rfl ⟨rfl,trivial⟩ ?_;exact xj0.o):p:=h ⟨k⟩
theorem jdI{p q:Prop}(k:q)(h:Bx q→p:=by intro xj0;refine zab (zaQ U9 rfl qt) rfl rfl ⟨rfl,trivial⟩ ?_;exact xj0.o):p:=h ⟨k⟩
theorem jdJ{p q:Prop}(k:q)(h:Bx q→p:=by intro xj0;refine zaa (zbH qp rfl) rfl rfl ?_;exact xj0.o):p:=h ⟨k⟩
theorem jdK{p q:Prop}(k:q)(h:Bx q→p:=by intro xj0;refine zab (zdF U34 U5 U9 (zas) rfl rfl) rfl rfl ⟨rfl,trivial⟩ ?_;exact xj0.o):p:=h ⟨k⟩
theorem jdL{p q0 q1:Prop}(k0:q0)(k1:q1)(h:Bx q0→Bx q1→p:=by intro xj0 xj1;refine⟨_,zai id _ _ ?_ ?_ rfl,0,qp,rfl⟩;exact xj0.o;exact xj1.o):p:=h ⟨k0⟩ ⟨k1⟩
theorem jdM{p q:Prop}(k:q)(h:Bx q→p:=by intro xj0;refine zaa (zcW U101 rfl rfl qq qq qq) rfl rfl ?_;exact xj0.o):p:=h ⟨k⟩
theorem jdN{p q:Prop}(k:q)(h:Bx q→p:=by intro xj0;refine zab (xs:=[.p (.v (.int .u8 ((n/256^0%256:Nat):Int)))]) (zae (es:=[.p (.v (.int .u8 ((n/256^0%256:Nat):Int)))]) (cs:=(bs [((n/256^0%256:Nat):Int)])) 100 U34 sz5 zc5 (qbk rfl) (qbk rfl) rfl qq qq qq (qbk rfl)) qF rfl ⟨rfl,trivial⟩ ?_;exact xj0.o):p:=h ⟨k⟩
theorem jdO{p q:Prop}(k:q)(h:Bx q→p:=by intro xj0;refine zab (xs:=[.p (.v (.int .u8 ((n/256^1%256:Nat):Int)))]) (zae (es:=[.p (.v (.int .u8 ((n/256^1%256:Nat):Int)))]) (cs:=(bs [((n/256^1%256:Nat):Int)])) 102 U34 sz5 zc5 (qbk rfl) (qbk rfl) rfl qq qq qq (qbk rfl)) qF rfl ⟨rfl,trivial⟩ ?_;exact xj0.o):p:=h ⟨k⟩
theorem jdP{p q:Prop}(k:q)(h:Bx q→p:=by intro xj0;refine zab (xs:=[.p (.v (.int .u8 ((n/256^2%256:Nat):Int)))]) (zae (es:=[.p (.v (.int .u8 ((n/256^2%256:Nat):Int)))]) (cs:=(bs [((n/256^2%256:Nat):Int)])) 104 U34 sz5 zc5 (qbk rfl) (qbk rfl) rfl qq qq qq (qbk rfl)) qF rfl ⟨rfl,trivial⟩ ?_;exact xj0.o):p:=h ⟨k⟩
theorem jdQ{p q:Prop}(k:q)(h:Bx q→p:=by intro xj0;refine zab (xs:=[.p (.v (.int .u8 ((n/256^3%256:Nat):Int)))]) (zae (es:=[.p (.v (.int .u8 ((n/256^3%256:Nat):Int)))]) (cs:=(bs [((n/256^3%256:Nat):Int)])) 106 U34 sz5 zc5 (qbk rfl) (qbk rfl) rfl qq qq qq (qbk rfl)) qF rfl ⟨rfl,trivial⟩ ?_;exact xj0.o):p:=h ⟨k⟩
theorem jdR{p q:Prop}(k:q)(h:Bx q→p:=by intro xj0;refine G [2,9,0] ?_;exact xj0.o):p:=h ⟨k⟩
theorem jdS{p q:Prop}(k:q)(h:Bx q→p:=by intro xj0;refine zab (xs:=[.agg (stC key ep a b c hh q.length (q.flatMap PQ.pv))]) (zae (es:=(stC key ep a b c hh q.length (q.flatMap PQ.pv))) (cs:=(ST.pv ⟨key,ep,a,b,c,hh,q⟩)) 40 U26 sz66 zc66 (qbk rfl) (qbk rfl) rfl qq qq qq (qbk rfl)) qF rfl ⟨rfl,trivial⟩ ?_;exact xj0.o):p:=h ⟨k⟩
theorem jdT{p q:Prop}(k:q)(h:Bx q→p:=by intro xj0;refine zab (zak U30 rfl sz30 qu (show _=d.sg.cells from rfl)) rfl rfl ⟨rfl,trivial⟩ ?_;exact xj0.o):p:=h ⟨k⟩
theorem jdU{p q:Prop}(k:q)(h:Bx q→p:=by intro xj0;refine zab (zak U66 rfl sz66 qu (show _=x.cells from rfl)) rfl rfl ⟨rfl,trivial⟩ ?_;exact xj0.o):p:=h ⟨k⟩
theorem jdV{p q:Prop}(k:q)(h:Bx q→p:=by intro xj0;refine G [8,9,0] ?_;exact xj0.o):p:=h ⟨k⟩
theorem jdW{p q:Prop}(k:q)(h:Bx q→p:=by intro xj0;refine zaa (zaG (r:=.row _)) rfl rfl ?_;exact xj0.o):p:=h ⟨k⟩
theorem jdX{p q:Prop}(k:q)(h:Bx q→p:=by intro xj0;refine zab (zaf (Y:=.agg [.p (.v (.int .u32 pa)),.p (.v (.int .u32 pb)),.p (.sl xs.length 1 (bs xs))]) sz36 rfl rfl (qbn rfl)) rfl rfl ⟨rfl,trivial⟩ ?_;exact xj0.o):p:=h ⟨k⟩
theorem jdY{p q:Prop}(k:q)(h:Bx q→p:=by intro xj0;refine G [4,9,0] ?_;exact xj0.o):p:=h ⟨k⟩
theorem jdZ{p q:Prop}(k:q)(h:Bx q→p:=by intro xj0;refine zab (xs:=((bs [110,y3,y2,y1,y0]).map AV.p)) (zae (es:=((bs [110,y3,y2,y1,y0]).map AV.p)) (cs:=(bs [110,y3,y2,y1,y0])) 27 U34 sz5 zc5 (qbk rfl) (qbk rfl) rfl qq qq qq (qbk rfl)) qF rfl ⟨rfl,trivial⟩ ?_;exact xj0.o):p:=h ⟨k⟩
theorem jd0{p q:Prop}(k:q)(h:Bx q→p:=by intro xj0;refine zaa (zaV qG rfl) rfl rfl ?_;exact xj0.o):p:=h ⟨k⟩
theorem jd1{p q:Prop}(k:q)(h:Bx q→p:=by intro xj0;refine zaa (zay U66 rfl sz66 qab (hch)) rfl rfl ?_;exact xj0.o):p:=h ⟨k⟩
theorem jd2{p q:Prop}(k:q)(h:Bx q→p:=by intro xj0;refine G [12,9,0] ?_;exact xj0.o):p:=h ⟨k⟩
theorem jd3{p q:Prop}(k:q)(h:Bx q→p:=by intro xj0;refine zaa (zaz U9 rfl qt) rfl rfl ?_;exact xj0.o):p:=h ⟨k⟩
theorem jd4{p q:Prop}(k:q)(h:Bx q→p:=by intro xj0;refine G [3,9,0] ?_;exact xj0.o):p:=h ⟨k⟩
theorem jd5{p q:Prop}(k:q)(h:Bx q→p:=by intro xj0;refine zab (zaf (Y:=.agg _) sz247 rfl qI (qbn rfl)) rfl rfl ⟨rfl,trivial⟩ ?_;exact xj0.o):p:=h ⟨k⟩
theorem jd6{p q:Prop}(k:q)(h:Bx q→p:=by intro xj0;refine zab (zaf (Y:=.agg _) sz233 rfl qI (qbn rfl)) rfl rfl ⟨rfl,trivial⟩ ?_;exact xj0.o):p:=h ⟨k⟩
theorem jd7{p q:Prop}(k:q)(h:Bx q→p:=by intro xj0;refine zaa (zaK U61 (xs:=a.vals++b.vals++c.vals) (ys:=KY0.vals++KY0.vals++KY0.vals) rfl rfl qq qq qq (c:=false) (by rw[zaY.2 (zcP.2 hz)];rfl)) rfl rfl ?_;exact xj0.o):p:=h ⟨k⟩
theorem jd8{p q:Prop}(k:q)(h:Bx q→p:=by intro xj0;refine zab (xs:=[.p (.v (.int .i64 n))]) (zae (es:=[.p (.v (.int .i64 n))]) (cs:=[.v (.int .i64 n)]) 51 U147 sz3 zc3 (qbk rfl) (qbk rfl) rfl qq qq qq (qbk rfl)) qF rfl ⟨rfl,trivial⟩ ?_;exact xj0.o):p:=h ⟨k⟩
theorem jd9{p q:Prop}(k:q)(h:Bx q→p:=by intro xj0;refine zab (zaf (Y:=.agg p.cells) sz98 rfl rfl (qbn rfl)) rfl rfl ⟨rfl,trivial⟩ ?_;exact xj0.o):p:=h ⟨k⟩
theorem jea{p q:Prop}(k:q)(h:Bx q→p:=by intro xj0;refine zab (xs:=[.p (.v (.int .u8 x))]) (zae (es:=[.p (.v (.int .u8 x))]) (cs:=[.v (.int .u8 x)]) 60 U34 sz5 zc5 (qbk rfl) (qbk rfl) rfl qq qq qq (qbk rfl)) qF rfl ⟨rfl,trivial⟩ ?_;exact xj0.o):p:=h ⟨k⟩
theorem jeb{p q:Prop}(k:q)(h:Bx q→p:=by intro xj0;refine zab (xs:=[.p (.v (.int .u8 c))]) (zae (es:=[.p (.v (.int .u8 c))]) (cs:=[.v (.int .u8 c)]) 13 U34 sz5 zc5 (qbk rfl) (qbk rfl) rfl qq qq qq (qbk rfl)) qF rfl ⟨rfl,trivial⟩ ?_;exact xj0.o):p:=h ⟨k⟩
theorem jec{p q:Prop}(k:q)(h:Bx q→p:=by intro xj0;refine zab (xs:=((bs [110]).map AV.p)) (zae (es:=((bs [110]).map AV.p)) (cs:=(bs [110])) 16 U34 sz5 zc5 (qbk rfl) (qbk rfl) rfl qq qq qq (qbk rfl)) qF rfl ⟨rfl,trivial⟩ ?_;exact xj0.o):p:=h ⟨k⟩
theorem jed{p q:Prop}(k:q)(h:Bx q→p:=by intro xj0;refine zab (zak U63 rfl sz63 qu (show _=[.p (.v (.bool false)),.p (.v (.int .i64 mine)),.p (.v (.string nc)),.p (.v (.int .i64 hb)),.p (.v (.int .i64 hs))]from rfl)) rfl rfl ⟨rfl,trivial⟩ ?_;exact xj0.o):p:=h ⟨k⟩
theorem jee{p q:Prop}(k:q)(h:Bx q→p:=by intro xj0;refine zab (zak U63 rfl sz63 qu (show _=[.p (.v (.bool lv)),.p (.v (.int .i64 mine)),.p (.v (.string nc)),.p (.v (.int .i64 hb)),.p (.v (.int .i64 hs))]from rfl)) rfl rfl ⟨rfl,trivial⟩ ?_;exact xj0.o):p:=h ⟨k⟩
theorem jef{p q:Prop}(k:q)(h:Bx q→p:=by intro xj0;refine zaa (zaL U34 sz5 qp qp (by rw[qbt,qbU])) rfl rfl ?_;exact xj0.o):p:=h ⟨k⟩
theorem jeg{p q:Prop}(k:q)(h:Bx q→p:=by intro xj0;refine zab (zak underlying129 rfl sz129 qu (show _=m.cells from rfl)) rfl rfl ⟨rfl,trivial⟩ ?_;exact xj0.o):p:=h ⟨k⟩
theorem jeh{p q:Prop}(k:q)(h:Bx q→p:=by intro xj0;refine zab (zak U32 rfl sz32 qu (show _=moD d2 (.row 1)from rfl)) rfl rfl ⟨rfl,trivial⟩ ?_;exact xj0.o):p:=h ⟨k⟩
theorem jei{p q:Prop}(k:q)(h:Bx q→p:=by intro xj0;refine zab (zbx (Y:=.p _) sz5 rfl rfl qam qH g4) rfl rfl ⟨rfl,trivial⟩ ?_;exact xj0.o):p:=h ⟨k⟩
theorem jej{p q:Prop}(k:q)(h:Bx q→p:=by intro xj0;refine zab (zbt (es:=stA key ep a b c hh (.p (.v (.slice none 0 0)))) sz64 rfl rfl (qbk rfl) rfl) rfl rfl ⟨rfl,trivial⟩ ?_;exact xj0.o):p:=h ⟨k⟩
theorem jek{p q:Prop}(k:q)(h:Bx q→p:=by intro xj0;refine zab (zak U59 rfl sz59 qu (show _=s.a.cells from rfl)) rfl rfl ⟨rfl,trivial⟩ ?_;exact xj0.o):p:=h ⟨k⟩
theorem jel{p q:Prop}(k:q)(h:Bx q→p:=by intro xj0;refine zal (zad (zaj (zad ?_)));exact xj0.o):p:=h ⟨k⟩
theorem jem{p q:Prop}(k:q)(h:Bx q→p:=by intro xj0;refine zab (zcN (o:=1) (i:=(i:Int)) (n:=d.ps.length) (size:=41) (c:=none) (cs:=arS d.ps i s 109) (q:=i*41) U26 sz66 qp qp rfl) rfl rfl ⟨rfl,trivial⟩ ?_;exact xj0.o):p:=h ⟨k⟩
theorem jen{p q:Prop}(k:q)(h:Bx q→p:=by intro xj0;refine zaa zcM rfl rfl ?_;exact xj0.o):p:=h ⟨k⟩
theorem jeo{p q:Prop}(k:q)(h:Bx q→p:=by intro xj0;refine zab (zaf (Y:=.agg [.p (.v (.int .u32 pa)),.p (.v (.int .u32 pb)),.p (.sl N 1 X)]) sz36 rfl rfl (qbn rfl)) rfl rfl ⟨rfl,trivial⟩ ?_;exact xj0.o):p:=h ⟨k⟩
theorem jep{p q:Prop}(k:q)(h:Bx q→p:=by intro xj0;refine zaa (zbf qay) rfl rfl ?_;exact xj0.o):p:=h ⟨k⟩
theorem jeq{p q:Prop}(k:q)(h:Bx q→p:=by intro xj0;refine zab (zam 47 U34 eo5 (zas) qy qp rfl rfl) rfl rfl ⟨rfl,rfl,rfl,trivial⟩ ?_;exact xj0.o):p:=h ⟨k⟩
theorem jer{p q:Prop}(k:q)(h:Bx q→p:=by intro xj0;refine zaa (zaz U9 rfl (by simp only[qbF,qbt,qb4];exact hep)) rfl rfl ?_;exact xj0.o):p:=h ⟨k⟩
theorem jes{p q:Prop}(k:q)(h:Bx q→p:=by intro xj0;refine zab (zaQ U33 rfl qt) rfl rfl ⟨rfl,trivial⟩ ?_;exact xj0.o):p:=h ⟨k⟩
theorem jet{p q:Prop}(k:q)(h:Bx q→p:=by intro xj0;refine zab (zaQ U5 rfl qt) rfl rfl ⟨rfl,trivial⟩ ?_;exact xj0.o):p:=h ⟨k⟩
theorem jeu{p q:Prop}(k:q)(h:Bx q→p:=by intro xj0;refine zab (zaf (Y:=.agg (moD d (.row 1))) sz32 rfl rfl (qbn rfl)) rfl rfl ⟨rfl,trivial⟩ ?_;exact xj0.o):p:=h ⟨k⟩
theorem jev{p q:Prop}(k:q)(h:Bx q→p:=by intro xj0;refine zab (zb1 U59 rfl sz59 qp (hky)) rfl rfl ⟨rfl,trivial⟩ ?_;exact xj0.o):p:=h ⟨k⟩
theorem jew{p q:Prop}(k:q)(h:Bx q→p:=by intro xj0;refine zab (zdD 21 U64 eo36 qp qp qy) rfl rfl ⟨rfl,trivial⟩ ?_;exact xj0.o):p:=h ⟨k⟩
theorem jex{p q:Prop}(k:q)(h:Bx q→p:=by intro xj0;refine zab (zhk (X:=.agg (moV d (.row 52) (.p (.v (.slice none 0 0))))) 54 rfl) rfl rfl ⟨rfl,trivial⟩ ?_;exact xj0.o):p:=h ⟨k⟩
theorem jey{p q:Prop}(k:q)(h:Bx q→p:=by intro xj0;refine zaa (zaz U110 rfl qt) rfl rfl ?_;exact xj0.o):p:=h ⟨k⟩
theorem jez{p q:Prop}(k:q)(h:Bx q→p:=by intro xj0;refine zab (zaf (Y:=.agg [.p (.v (.bool lv)),.p (.v (.int .i64 mine)),.p (.v (.string nc)),.p (.v (.int .i64 hb)),.p (.v (.int .i64 hs))]) sz63 rfl rfl (qbn rfl)) rfl rfl ⟨rfl,trivial⟩ ?_;exact xj0.o):p:=h ⟨k⟩
theorem jeA{p q:Prop}(k:q)(h:Bx q→p:=by intro xj0;refine zaa (zeJ underlying162 sz9 U9 rfl qp qp qV) rfl rfl ?_;exact xj0.o):p:=h ⟨k⟩
theorem jeB{p q:Prop}(k:q)(h:Bx q→p:=by intro xj0;refine zab (zak U66 rfl sz66 qu (show _=stA key ep a b c hh (.row 101)from rfl)) rfl rfl ⟨rfl,trivial⟩ ?_;exact xj0.o):p:=h ⟨k⟩
theorem jeC{p q:Prop}(k:q)(h:Bx q→p:=by intro xj0;refine zaa (za2 (c:=true) (decide_eq_true hk)) rfl rfl ?_;exact xj0.o):p:=h ⟨k⟩
theorem jeD{p q:Prop}(k:q)(h:Bx q→p:=by intro xj0;show Fn prog _ [.agg [.p (.v (.string key)),.p (.v (.int .i64 port)),.p (.sl ps.length 5 (ps.flatMap PE.pv))]] _ [(0,.row 103 4 (tOf (zaH ps ps.length)).list.length (nds (tOf (zaH ps ps.length)).list))];exact xj0.o):p:=h ⟨k⟩
theorem jeE{p q:Prop}(k:q)(h:Bx q→p:=by intro xj0;refine zaa (zcL U61 (xs:=a.vals++b.vals++c.vals) (ys:=KY0.vals++KY0.vals++KY0.vals) rfl rfl qq qq qq (c:=true) (zaY.2 (zcP.2 hz))) rfl rfl ?_;exact xj0.o):p:=h ⟨k⟩
theorem jeF{p q:Prop}(k:q)(h:Bx q→p:=by intro xj0;refine zab (zak U32 rfl sz32 qu (show _=moD d (.row 11)from rfl)) rfl rfl ⟨rfl,trivial⟩ ?_;exact xj0.o):p:=h ⟨k⟩
theorem jeG{p q:Prop}(k:q)(h:Bx q→p:=by intro xj0;refine zab (zak U59 rfl sz59 qu (show _=(ksK s.a).cells from rfl)) rfl rfl ⟨rfl,trivial⟩ ?_;exact xj0.o):p:=h ⟨k⟩
theorem jeH{p q:Prop}(k:q)(h:Bx q→p:=by intro xj0;refine zaa (zay U101 rfl zbw qH (rfl)) rfl rfl ?_;exact xj0.o):p:=h ⟨k⟩
theorem jeI{p q0 q1 q2:Prop}(k0:q0)(k1:q1)(k2:q2)(h:Bx q0→Bx q1→Bx q2→p:=by intro xj0 xj1 xj2;refine⟨qO,⟨_,(.tmp _ _ _ _ rfl .nil),?_⟩,?_,?_⟩;exact xj0.o;exact xj1.o;exact xj2.o):p:=h ⟨k0⟩ ⟨k1⟩ ⟨k2⟩
theorem jeJ{p q:Prop}(k:q)(h:Bx q→p:=by intro xj0;refine zab (zak U59 rfl sz59 qu (show _=a.cells from rfl)) rfl rfl ⟨rfl,trivial⟩ ?_;exact xj0.o):p:=h ⟨k⟩
theorem jeK{p q:Prop}(k:q)(h:Bx q→p:=by intro xj0;refine zab (zak U59 rfl sz59 qu (show _=b.cells from rfl)) rfl rfl ⟨rfl,trivial⟩ ?_;exact xj0.o):p:=h ⟨k⟩
theorem jeL{p q:Prop}(k:q)(h:Bx q→p:=by intro xj0;refine zab (zak U59 rfl sz59 qu (show _=c.cells from rfl)) rfl rfl ⟨rfl,trivial⟩ ?_;exact xj0.o):p:=h ⟨k⟩
theorem jeM{p q:Prop}(k:q)(h:Bx q→p:=by intro xj0;refine zab (zak U59 rfl sz59 qu (show _=x.cells from rfl)) rfl rfl ⟨rfl,trivial⟩ ?_;exact xj0.o):p:=h ⟨k⟩
theorem jeN{p q:Prop}(k:q)(h:Bx q→p:=by intro xj0;refine zab (zak U98 rfl sz98 qu (show _=p.cells from rfl)) rfl rfl ⟨rfl,trivial⟩ ?_;exact xj0.o):p:=h ⟨k⟩
theorem jeO{p q:Prop}(k:q)(h:Bx q→p:=by intro xj0;refine zab (zak U98 rfl sz98 qu (show _=x.cells from rfl)) rfl rfl ⟨rfl,trivial⟩ ?_;exact xj0.o):p:=h ⟨k⟩
theorem jeP{p q:Prop}(k:q)(h:Bx q→p:=by intro xj0;refine zab (zak U36 rfl sz36 qu (show _=x.cells from rfl)) rfl rfl ⟨rfl,trivial⟩ ?_;exact xj0.o):p:=h ⟨k⟩
theorem jeQ{p q:Prop}(k:q)(h:Bx q→p:=by intro xj0;refine zab (zak U36 rfl sz36 qu (show _=y.cells from rfl)) rfl rfl ⟨rfl,trivial⟩ ?_;exact xj0.o):p:=h ⟨k⟩
theorem jeR{p q:Prop}(k:q)(h:Bx q→p:=by intro xj0;refine zab (zak U66 rfl sz66 qu (show _=y.cells from rfl)) rfl rfl ⟨rfl,trivial⟩ ?_;exact xj0.o):p:=h ⟨k⟩
theorem jeS{p q:Prop}(k:q)(h:Bx q→p:=by intro xj0;refine zab (zak U75 rfl sz75 qu (show _=x.cells from rfl)) rfl rfl ⟨rfl,trivial⟩ ?_;exact xj0.o):p:=h ⟨k⟩
theorem jeT{p q:Prop}(k:q)(h:Bx q→p:=by intro xj0;refine zab (zak U75 rfl sz75 qu (show _=y.cells from rfl)) rfl rfl ⟨rfl,trivial⟩ ?_;exact xj0.o):p:=h ⟨k⟩
theorem jeU{p q:Prop}(k:q)(h:Bx q→p:=by intro xj0;refine zab (zak U98 rfl sz98 qu (show _=y.cells from rfl)) rfl rfl ⟨rfl,trivial⟩ ?_;exact xj0.o):p:=h ⟨k⟩
theorem jeV{p q:Prop}(k:q)(h:Bx q→p:=by intro xj0;refine zaa (za2 (c:=false) (decide_eq_false h3)) rfl rfl ?_;exact xj0.o):p:=h ⟨k⟩
theorem jeW{p q:Prop}(k:q)(h:Bx q→p:=by intro xj0;refine zaa (zaz U5 rfl (by rw[qbF];exact g1)) rfl rfl ?_;exact xj0.o):p:=h ⟨k⟩
theorem jeX{p q:Prop}(k:q)(h:Bx q→p:=by intro xj0;refine zab (zbx (Y:=.agg (HS.cells ⟨true,d.last+1,nc,d.now,0⟩)) (ys:=HS.pv ⟨true,d.last+1,nc,d.now,0⟩) sz63 rfl rfl rfl qp hst) rfl rfl ⟨rfl,trivial⟩ ?_;exact xj0.o):p:=h ⟨k⟩
theorem jeY{p q:Prop}(k:q)(h:Bx q→p:=by intro xj0;refine zaa (zaz U9 rfl hpk) rfl rfl ?_;exact xj0.o):p:=h ⟨k⟩
theorem jeZ{p q:Prop}(k:q)(h:Bx q→p:=by intro xj0;refine zab (zfr 12 U9 U34 U5 qP s1 s2) rfl rfl ⟨rfl,trivial⟩ ?_;exact xj0.o):p:=h ⟨k⟩
theorem je0{p q:Prop}(k:q)(h:Bx q→p:=by intro xj0;refine zaa (zay U36 rfl sz36 qab (hch2)) rfl rfl ?_;exact xj0.o):p:=h ⟨k⟩
theorem je1{p q:Prop}(k:q)(h:Bx q→p:=by intro xj0;refine zaa (zb8 (by rw[show(⟨#[107,101,121,32]⟩:ByteArray).size=4 from rfl];omega) hu) rfl rfl ?_;exact xj0.o):p:=h ⟨k⟩
theorem je2{p q:Prop}(k:q)(h:Bx q→p:=by intro xj0;refine zaa (ziu qN) rfl rfl ?_;exact xj0.o):p:=h ⟨k⟩
theorem je3{p q:Prop}(k:q)(h:Bx q→p:=by intro xj0;refine zab (zaT 5 zr66 rfl) rfl rfl ⟨rfl,trivial⟩ ?_;exact xj0.o):p:=h ⟨k⟩
theorem je4{p q:Prop}(k:q)(h:Bx q→p:=by intro xj0;refine zab (zaf (Y:=.agg s.a.cells) sz59 rfl rfl (qbn rfl)) rfl rfl ⟨rfl,trivial⟩ ?_;exact xj0.o):p:=h ⟨k⟩
theorem je5{p q:Prop}(k:q)(h:Bx q→p:=by intro xj0;refine zaa (zbO pl61 zr61 rfl rfl) rfl rfl ?_;exact xj0.o):p:=h ⟨k⟩
theorem je6{p q:Prop}(k:q)(h:Bx q→p:=by intro xj0;refine⟨⟨rfl,rfl⟩,⟨rfl,rfl⟩,⟨?_,rfl⟩,trivial⟩;exact xj0.o):p:=h ⟨k⟩
theorem je7{p q:Prop}(k:q)(h:Bx q→p:=by intro xj0;refine zaa (za2 (c:=false) (decide_eq_false hk)) rfl rfl ?_;exact xj0.o):p:=h ⟨k⟩
theorem je8{p q:Prop}(k:q)(h:Bx q→p:=by intro xj0;refine zbp (w1) rfl rfl func143 rfl rfl qL rfl ?_;exact xj0.o):p:=h ⟨k⟩
theorem je9{p q:Prop}(k:q)(h:Bx q→p:=by intro xj0;refine zaa (za2 (c:=true) (decide_eq_true hkk)) rfl rfl ?_;exact xj0.o):p:=h ⟨k⟩
theorem jfa{p q:Prop}(k:q)(h:Bx q→p:=by intro xj0;refine zab (zfb U34 U5 qp) rfl rfl ⟨rfl,trivial⟩ ?_;exact xj0.o):p:=h ⟨k⟩
theorem jfb{p q:Prop}(k:q)(h:Bx q→p:=by intro xj0;refine zab (zaT 6 zr66 rfl) rfl rfl ⟨rfl,trivial⟩ ?_;exact xj0.o):p:=h ⟨k⟩
theorem jfc{p q:Prop}(k:q)(h:Bx q→p:=by intro xj0;refine jdx ?_;refine zac ?_;refine zaW (zat ?_);refine tx ?_;refine jdt ?_;refine jdn ?_;refine zac ?_;refine zad ?_;refine tx ?_;refine jen ?_;refine zac ?_;refine zad ?_;exact xj0.o):p:=h ⟨k⟩
theorem jfd{p q:Prop}(k:q)(h:Bx q→p:=by intro xj0;refine jdo ?_;refine cK hC ?_;refine G [5,1,5] ?_;refine jdp ?_;refine cK hE ?_;refine G [10,1,9] ?_;refine cK hF ?_;exact xj0.o):p:=h ⟨k⟩
theorem jfe{p q:Prop}(k:q)(h:Bx q→p:=by intro xj0;refine tx ?_;refine jdn ?_;exact xj0.o):p:=h ⟨k⟩
theorem jff{p q:Prop}(k:q)(h:Bx q→p:=by intro xj0;refine cK hS ?_;refine fA zii rfl rfl ?_;refine jdT ?_;refine cK hG ?_;refine fA fi32_0 rfl rfl ?_;refine zab (zbt (Y:=.agg d.c.cells) (es:=d.cells) sz24 rfl rfl (qbk rfl) rfl) rfl rfl ⟨rfl,trivial⟩ ?_;refine fA fi32_1 rfl rfl ?_;refine zab (zbt (Y:=.p (.sl d.tree.length 4 (nds d.tree))) (es:=d.cells) sz25 rfl rfl (qbk rfl) rfl) rfl rfl ⟨rfl,trivial⟩ ?_;refine fA fi32_2 rfl rfl ?_;refine zab (zbt (Y:=.row 11) (es:=moD d (.row 11)) sz26 rfl rfl (qbk rfl) rfl) rfl rfl ⟨rfl,trivial⟩ ?_;refine fA zii rfl rfl ?_;refine zab (zbt (Y:=.agg d.sg.cells) (es:=moD d (.row 11)) sz30 rfl rfl (qbk rfl) rfl) rfl rfl ⟨rfl,trivial⟩ ?_;exact xj0.o):p:=h ⟨k⟩
theorem jfg{p q:Prop}(k:q)(h:Bx q→p:=by intro xj0;refine zac ?_;refine zat ?_;exact xj0.o):p:=h ⟨k⟩
theorem jfh{p q:Prop}(k:q)(h:Bx q→p:=by intro xj0;refine G [11] ?_;refine jfd ?_;refine G [10,1,6] ?_;refine jdq ?_;refine jdn ?_;refine cK hP ?_;refine G [8] ?_;refine jdo ?_;refine cK hK ?_;refine zaa (zbO pl53 zr53 rfl rfl) rfl rfl ?_;refine jex ?_;exact xj0.o):p:=h ⟨k⟩
theorem jfi{p q:Prop}(k:q)(h:Bx q→p:=by intro xj0;refine jdv ?_;refine G [3] ?_;refine jdu ?_;refine jfb ?_;refine jdv ?_;refine G [4] ?_;refine jej ?_;refine jfg ?_;refine za3 (zgJ 6 40 101 36 3 rfl rfl rfl) ?_;refine G [9] ?_;exact xj0.o):p:=h ⟨k⟩
theorem jfj{p q:Prop}(k:q)(h:Bx q→p:=by intro xj0;refine G [5] ?_;refine jef ?_;refine jeW ?_;refine G [5] ?_;refine zaa (zfs qp (by first|exact IntWalk.u8_quo _ _ qp|rfl)) rfl rfl ?_;refine zaa (zbS U9 qp (by exact d1)) rfl rfl ?_;refine zbp (w1) rfl rfl func146 rfl rfl qL rfl ?_;refine G [3] ?_;refine jdE ?_;refine zaa (zbS U9 qp (by exact d2)) rfl rfl ?_;refine zbp (w2) rfl rfl func146 rfl rfl qL rfl ?_;refine jdC ?_;exact xj0.o):p:=h ⟨k⟩
theorem jfk{p q:Prop}(k:q)(h:Bx q→p:=by intro xj0;refine jel ?_;refine tx ?_;refine jdz ?_;refine jdn ?_;exact xj0.o):p:=h ⟨k⟩
theorem jfl{p q:Prop}(k:q)(h:Bx q→p:=by intro xj0;refine jdx ?_;refine zac ?_;exact xj0.o):p:=h ⟨k⟩
theorem jfm{p q:Prop}(k:q)(h:Bx q→p:=by intro xj0;refine G [15] ?_;refine jfd ?_;refine G [10,1,9] ?_;refine jeV ?_;refine G [6] ?_;refine jdq ?_;refine jdn ?_;refine cK hP ?_;refine G [9] ?_;refine zaa (zan fi66_1 rfl) rfl rfl ?_;refine jer ?_;exact xj0.o):p:=h ⟨k⟩
theorem jfn{p q:Prop}(k:q)(h:Bx q→p:=by intro xj0;refine zad ?_;refine tx ?_;refine jen ?_;refine zac ?_;refine zad ?_;exact xj0.o):p:=h ⟨k⟩
theorem jfo{p q:Prop}(k:q)(h:Bx q→p:=by intro xj0;refine G [21] ?_;refine jdl ?_;refine G [2] ?_;exact xj0.o):p:=h ⟨k⟩
theorem jfp{p q:Prop}(k:q)(h:Bx q→p:=by intro xj0;refine G [4] ?_;refine zaa zbm rfl rfl ?_;refine zaa (zan zb5 rfl) rfl rfl ?_;refine jeH ?_;refine lN U101 rfl zbw rfl rfl ⟨rfl,trivial⟩ ?_;refine cV hS ?_;refine zaa zbm rfl rfl ?_;refine zaa (zan zcV rfl) rfl rfl ?_;refine zaa (zcm U113 zde qp qp rfl) rfl rfl ?_;refine jey ?_;refine jdR ?_;exact xj0.o):p:=h ⟨k⟩
theorem jfq{p q:Prop}(k:q)(h:Bx q→p:=by intro xj0;refine G [3] ?_;refine zab (zae 42 U26 sz66 zc66 (qbk rfl) (qbk rfl) rfl rfl rfl rfl (qbk rfl)) rfl rfl ⟨rfl,trivial⟩ ?_;refine zab (zam 43 U26 eo66 (zas) qy qp rfl rfl) rfl rfl ⟨rfl,rfl,rfl,trivial⟩ ?_;refine jdw ?_;exact xj0.o):p:=h ⟨k⟩
theorem jfr{p q:Prop}(k:q)(h:Bx q→p:=by intro xj0;refine G [7] ?_;refine zaa (zay U101 rfl zbw qab (hch)) rfl rfl ?_;refine G [2] ?_;refine zab (zaf (Y:=.agg [.p (.v (.int .u32 qa)),.p (.v (.int .i64 qn))]) zbw rfl rfl (qbn rfl)) rfl rfl ⟨rfl,trivial⟩ ?_;refine G [5] ?_;refine cV hC ?_;refine jds ?_;exact xj0.o):p:=h ⟨k⟩
theorem jfs{p q:Prop}(k:q)(h:Bx q→p:=by intro xj0;refine jfm ?_;refine zaa (za2 (c:=false) (decide_eq_false h4)) rfl rfl ?_;refine G [5] ?_;refine jdo ?_;refine cK hK ?_;refine zab (zaT 13 zr32 rfl) rfl rfl ⟨rfl,trivial⟩ ?_;refine zab (zaf (Y:=.agg (moD d (.row 87))) sz32 rfl rfl (qbn rfl)) rfl rfl ⟨rfl,trivial⟩ ?_;exact xj0.o):p:=h ⟨k⟩
theorem jft{p q:Prop}(k:q)(h:Bx q→p:=by intro xj0;refine zab (zae 12 U34 sz5 zc5 (qbk rfl) (qbk rfl) rfl rfl rfl rfl (qbk rfl)) rfl rfl ⟨rfl,trivial⟩ ?_;refine zab (zam 13 U34 eo5 (zas) qy qp rfl rfl) rfl rfl ⟨rfl,rfl,rfl,trivial⟩ ?_;refine G [4] ?_;exact xj0.o):p:=h ⟨k⟩
theorem jfu{p q:Prop}(k:q)(h:Bx q→p:=by intro xj0;refine G [8] ?_;refine jdq ?_;refine cK hC ?_;refine G [2] ?_;refine zab (zdS (zaP 8 U25 zhj (zbc) qy qp)) rfl rfl ⟨rfl,trivial⟩ ?_;refine G [2] ?_;refine cK hS ?_;refine fA zii rfl rfl ?_;refine jdT ?_;refine cK hG ?_;refine G [7] ?_;exact xj0.o):p:=h ⟨k⟩
theorem jfv{p q:Prop}(k:q)(h:Bx q→p:=by intro xj0;refine zad ?_;refine tx ?_;exact xj0.o):p:=h ⟨k⟩
theorem jfw{p q:Prop}(k:q)(h:Bx q→p:=by intro xj0;refine zaa (zan zhd rfl) rfl rfl ?_;refine jeY ?_;exact xj0.o):p:=h ⟨k⟩
theorem jfx{p q:Prop}(k:q)(h:Bx q→p:=by intro xj0;refine jfl ?_;refine zad (zad ?_);refine jfe ?_;exact xj0.o):p:=h ⟨k⟩
theorem jfy{p q:Prop}(k:q)(h:Bx q→p:=by intro xj0;refine G [23] ?_;refine cK hM ?_;refine G [34] ?_;exact xj0.o):p:=h ⟨k⟩
theorem jfz{p q:Prop}(k:q)(h:Bx q→p:=by intro xj0;refine tx ?_;refine jdt ?_;refine jdn ?_;refine jfg ?_;exact xj0.o):p:=h ⟨k⟩
theorem jfA{p q:Prop}(k:q)(h:Bx q→p:=by intro xj0;refine jdW ?_;refine zac ?_;exact xj0.o):p:=h ⟨k⟩
theorem jfB{p q:Prop}(k:q)(h:Bx q→p:=by intro xj0;refine zab (zaT 5 zr59 rfl) rfl rfl ⟨rfl,trivial⟩ ?_;refine zab (zaf (Y:=.agg x.cells) sz59 rfl rfl (qbn rfl)) rfl rfl ⟨rfl,trivial⟩ ?_;refine G [3] ?_;refine jeM ?_;refine cK hC ?_;refine jds ?_;exact xj0.o):p:=h ⟨k⟩
theorem jfC{p q:Prop}(k:q)(h:Bx q→p:=by intro xj0;refine G [2,4,9] ?_;refine jd1 ?_;refine je3 ?_;refine jdv ?_;refine G [6] ?_;refine jew ?_;refine G [11] ?_;exact xj0.o):p:=h ⟨k⟩
theorem jfD{p q:Prop}(k:q)(h:Bx q→p:=by intro xj0;refine G [5] ?_;refine jeC ?_;refine G [2] ?_;exact xj0.o):p:=h ⟨k⟩
theorem jfE{p q:Prop}(k:q)(h:Bx q→p:=by intro xj0;refine za9 6 qq ?_;refine jdz ?_;refine cV hK ?_;refine G [2] ?_;exact xj0.o):p:=h ⟨k⟩
theorem jfF{p q:Prop}(k:q)(h:Bx q→p:=by intro xj0;refine jdr ?_;refine jdF ?_;exact xj0.o):p:=h ⟨k⟩
theorem jfG{p q:Prop}(k:q)(h:Bx q→p:=by intro xj0;refine G [10] ?_;refine cV hS ?_;refine G [10,1,1,9,0] ?_;exact xj0.o):p:=h ⟨k⟩
theorem jfH{p q:Prop}(k:q)(h:Bx q→p:=by intro xj0;refine zab (zaQ U5 rfl g1) rfl rfl ⟨rfl,trivial⟩ ?_;refine jea ?_;refine zab (zam 61 U34 eo5 (zas) qy qp rfl rfl) rfl rfl ⟨rfl,rfl,rfl,trivial⟩ ?_;refine jds ?_;exact xj0.o):p:=h ⟨k⟩
theorem jfI{p q:Prop}(k:q)(h:Bx q→p:=by intro xj0;refine jfl ?_;refine zad ?_;refine jfe ?_;exact xj0.o):p:=h ⟨k⟩
theorem jfJ{p q:Prop}(k:q)(h:Bx q→p:=by intro xj0;refine G [10] ?_;refine cV hC ?_;refine jds ?_;exact xj0.o):p:=h ⟨k⟩
theorem jfK{p q:Prop}(k:q)(h:Bx q→p:=by intro xj0;refine jfh ?_;refine G [20] ?_;refine jev ?_;refine G [5] ?_;refine cK hFr ?_;refine G [4] ?_;exact xj0.o):p:=h ⟨k⟩
theorem jfL{p q:Prop}(k:q)(h:Bx q→p:=by intro xj0;refine G [6] ?_;refine zaa (zay U36 rfl sz36 qab (hch)) rfl rfl ?_;refine zab (zaT 14 zr36 rfl) rfl rfl ⟨rfl,trivial⟩ ?_;refine jeo ?_;refine zac ?_;exact xj0.o):p:=h ⟨k⟩
theorem jfM{p q:Prop}(k:q)(h:Bx q→p:=by intro xj0;refine G [4] ?_;refine cV l1 ?_;refine zaa (zb8 qp c1) rfl rfl ?_;refine G [9,9,0] ?_;exact xj0.o):p:=h ⟨k⟩
theorem jfN{p q:Prop}(k:q)(h:Bx q→p:=by intro xj0;refine zab (zaf (Y:=.agg (stC key ep a b c ⟨lv,mine,nc,hb,hs⟩ q.length (q.flatMap PQ.pv))) sz66 rfl rfl (qbn rfl)) rfl rfl ⟨rfl,trivial⟩ ?_;refine zac ?_;exact xj0.o):p:=h ⟨k⟩
theorem jfO{p q:Prop}(k:q)(h:Bx q→p:=by intro xj0;refine G [8] ?_;refine zab (zaf (Y:=.agg [.p (.v (.int .u32 qa)),.p (.v (.int .i64 qb))]) zbw rfl rfl (qbn rfl)) rfl rfl ⟨rfl,trivial⟩ ?_;refine zac ?_;exact xj0.o):p:=h ⟨k⟩
theorem jfP{p q:Prop}(k:q)(h:Bx q→p:=by intro xj0;refine jeu ?_;refine zab (zaf (Y:=.agg [.p (.v (.string ⟨#[]⟩)),.p (.v (.string s.ep)),.row 44]) sz75 rfl rfl (qbn rfl)) rfl rfl ⟨rfl,trivial⟩ ?_;exact xj0.o):p:=h ⟨k⟩
theorem jfQ{p q:Prop}(k:q)(h:Bx q→p:=by intro xj0;refine G [6] ?_;refine jdI ?_;refine G [5] ?_;refine cV hC ?_;exact xj0.o):p:=h ⟨k⟩
theorem jfR{p q:Prop}(k:q)(h:Bx q→p:=by intro xj0;refine zab (zaf (Y:=.agg s.cells) sz66 rfl rfl (qbn rfl)) rfl rfl ⟨rfl,trivial⟩ ?_;refine G [4] ?_;refine jdH ?_;refine cK hC ?_;refine jds ?_;exact xj0.o):p:=h ⟨k⟩
theorem jfS{p q:Prop}(k:q)(h:Bx q→p:=by intro xj0;refine cV hT ?_;refine G [6] ?_;refine jdm ?_;refine G [2] ?_;exact xj0.o):p:=h ⟨k⟩
theorem jfT{p q:Prop}(k:q)(h:Bx q→p:=by intro xj0;refine G [6] ?_;refine zaa (zay U103 rfl zcZ (by rw[qbH,hln];first|omega|(simp only[qbt];omega)) ((show _=x.pv from hld))) rfl rfl ?_;exact xj0.o):p:=h ⟨k⟩
theorem jfU{p q:Prop}(k:q)(h:Bx q→p:=by intro xj0;refine zaa (zah (r:=.tup _)) rfl rfl ?_;refine zaa (zdE rfl) rfl rfl ?_;refine zaa (zdE rfl) rfl rfl ?_;refine jdW ?_;refine jfl ?_;refine jfv ?_;refine jdz ?_;exact xj0.o):p:=h ⟨k⟩
theorem jfV{p q:Prop}(k:q)(h:Bx q→p:=by intro xj0;refine G [7] ?_;refine zab (zfW 8 U34 eo5 zr5 rfl qp qp qp qy rfl) rfl rfl ⟨rfl,trivial⟩ ?_;refine G [10] ?_;exact xj0.o):p:=h ⟨k⟩
theorem jfW{p q:Prop}(k:q)(h:Bx q→p:=by intro xj0;refine jei ?_;refine G [3] ?_;refine zaa (zbH qp g6) rfl rfl ?_;refine jds ?_;exact xj0.o):p:=h ⟨k⟩
theorem jfX{p q:Prop}(k:q)(h:Bx q→p:=by intro xj0;refine zab (zbx (Y:=.p _) sz5 rfl rfl qam qH q2) rfl rfl ⟨rfl,trivial⟩ ?_;refine jdC ?_;exact xj0.o):p:=h ⟨k⟩
theorem jfY{p q:Prop}(k:q)(h:Bx q→p:=by intro xj0;refine zab (zbx (Y:=.p _) sz5 rfl rfl qam qH g6) rfl rfl ⟨rfl,trivial⟩ ?_;refine jdC ?_;exact xj0.o):p:=h ⟨k⟩
end Go.Proofs.YtdiljgkijgiboaaGreatDoor
