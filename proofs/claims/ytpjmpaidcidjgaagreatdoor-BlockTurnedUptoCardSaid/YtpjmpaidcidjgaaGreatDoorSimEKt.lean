/- Whatever only computes: the model's run hands back what stands for the pure value. -/
import Derived.Test.YtpjmpaidcidjgaaGreatDoorAbbKt
import Derived.Test.YtpjmpaidcidjgaaGreatDoorSimCKt
set_option linter.defProp false
namespace Ps
open Go
section
variable {X : Tie} {g : Gh} {w : World} {n : Dn} {fr : Fr} {a : Act}
def xp{isb:Bool}{c d:PV}{l m:List PV}{b:Bool}(h:dR isb (c::l) (d::m)=some b) :
  ∃r,dR isb l m=some r∧((isb=true∧∃x y,c=.bool x∧d=.bool y∧b=(x==y&&r))∨(isb=false∧∃k x y,c=.int k x∧d=.int k y∧b=(x==y&&r))):=by
 unfold dR at h;split at h
 ·rename_i heq;cases heq
 ·rename_i x l' y m' h1 h2;cases h1;cases h2;split at h
  ·rename_i hb;split at h
   ·rename_i r hr;cases h;exact⟨r,hr,.inl ⟨hb,x,y,rfl,rfl,rfl⟩⟩
   ·cases h
  ·cases h
 ·rename_i k x l' j y m' h1 h2;cases h1;cases h2;split at h
  ·rename_i hk;simp only[aI,fV,decide_eq_true_eq]at hk;obtain⟨hb,hk⟩:=hk;subst hk;split at h
   ·rename_i r hr;cases h;exact⟨r,hr,.inr ⟨hb,k,x,y,rfl,rfl,rfl⟩⟩
   ·cases h
  ·cases h
 ·cases h
theorem Nz(isb:Bool)(d:Nat)(e:TypeId)(us vs:Array Value)(hsz:(Go.sizeOf e).run X.P w=.ok 1 w)(hag:(isAgg e).run X.P w=.ok false w)
  (he:if isb then X.P.underlying e=some .bool else ∃k,X.P.underlying e=some (.int k)):∀(cs ds:List PV) (i:Nat) (b:Bool),
  (∀(j:Nat) (c:PV),cs[j]?=some c→∃u,us[i+j]?=some u∧VR X g w c u)→(∀(j:Nat) (c:PV),ds[j]?=some c→∃u,vs[i+j]?=some u∧VR X g w c u) →
  cs.length=ds.length→dR isb cs ds=some b →
  ((forIn (List.range' i cs.length) (none,PUnit.unit) (fun i (_:Option Bool×PUnit)=>do
    let x ←part e us (i*1);let y ←part e vs (i*1);let r ←Op.equalIn (d+1) e x y
    if(!r)=true then pure (ForInStep.done (some false,PUnit.unit))else pure (ForInStep.yield (none,PUnit.unit))):Sem (Option Bool×PUnit))).run X.P w=.ok (if b then none else some false,PUnit.unit) w
 | [],[],i,b,_,_,_,h=>by cases h;simp
 | [],_::_,_,_,_,_,hl,_=>by simp at hl
 |_::_,[],_,_,_,_,hl,_=>by simp at hl
 |c::cs,c'::ds,i,b,hc,hd,hl,h=>by
  obtain⟨r,hr,hcase⟩:=xp h;obtain⟨u,hu,ru⟩:=hc 0 c rfl;obtain⟨v,hv,rv⟩:=hd 0 c' rfl
  have ih:=Nz isb d e us vs hsz hag he cs ds (i+1) r
   (fun j x hx=>by have:=hc (j+1) x (by simpa using hx);rwa [show i+(j+1)=i+1+j by omega]at this)
   (fun j x hx=>by have:=hd (j+1) x (by simpa using hx);rwa [show i+(j+1)=i+1+j by omega]at this) (by simpa using hl) hr
  simp only[eo]at hu hv;have p1:(part e us (i*1)).run X.P w=.ok u w:=by simp[part,hag,hu]
  have p2:(part e vs (i*1)).run X.P w=.ok v w:=by simp[part,hag,hv]
  simp only[bE,lS,tY,Sem.run_bind,p1,p2,Result.andThen_ok]
  have hq:∃q,(Op.equalIn (d+1) e u v).run X.P w=.ok q w∧b=(q&&r):=by
   rcases hcase with⟨rfl,x,y,rfl,rfl,hb⟩|⟨rfl,k,x,y,rfl,rfl,hb⟩
   ·cases ru;cases rv;simp only[if_true]at he;exact⟨x==y,by simp[Op.equalIn,run_underlying he],hb⟩
   ·cases ru;cases rv;simp only[bg,if_false]at he;obtain⟨k',he⟩:=he;exact⟨x==y,by simp[Op.equalIn,run_underlying he],hb⟩
  obtain⟨q,hq1,hq2⟩:=hq;rw[hq1];simp only[Result.andThen_ok];cases q
  ·simp only[hq2];simp
  ·simp only[tT,bg,if_false,Sem.run_pure,Result.andThen_ok];rw[hq2];simpa using ih
def XQ{neg isb:Bool}{m:Nat}{t:TypeId}{x y:Operand}{cs ds:List PV}{us vs:Array Value}{b:Bool}(ht:rH X.P t isb m=true)
  (hl:cs.length=m)(hl':ds.length=m)(he:dR isb cs ds=some b)(r1:bD X g w cs us)(r2:bD X g w ds vs) :
  ((eqGuard (cJ neg) t x y (.agg us) (.agg vs)).bind fun _=>binOp (cJ neg) t (.agg us) (.agg vs)).run X.P w=.ok (.bool (if neg then !b else b)) w:=by
 unfold rH at ht;split at ht
 ·rename_i m' e hu;simp only[aI,beq_iff_eq,fV]at ht;obtain⟨⟨⟨rfl,h2⟩,h3⟩,h4⟩:=ht
  have hsz:(Go.sizeOf e).run X.P w=.ok 1 w:=by
   split at h2
   ·rename_i i hi;simp only[beq_iff_eq]at h2;simp[Go.sizeOf,typeInfo,hi,h2]
   ·cases h2
  have hag:(isAgg e).run X.P w=.ok false w:=by
   split at h3
   ·rename_i hu;simp[isAgg,run_underlying hu]
   ·rename_i hu;simp[isAgg,run_underlying hu]
   ·cases h3
  have hee:if isb then X.P.underlying e=some .bool else ∃k,X.P.underlying e=some (.int k):=by
   split at h3
   ·rename_i hu;simp[h3,hu]
   ·rename_i k hu;simp only[fV]at h3;simp[h3,hu]
   ·cases h3
  have hin:∀D,(∃d,D=d+1)→(Op.equalIn (D+1) t (.agg us) (.agg vs)).run X.P w=.ok b w:=by
   intro D hD;simp only[Op.equalIn,Sem.run_bind,run_underlying hu,Result.andThen_ok,hsz,Std.Legacy.Range.forIn_eq_forIn_range',Std.Legacy.Range.size,tx,tn,tp];obtain⟨d,rfl⟩:=hD
   have:=Nz isb d e us vs hsz hag hee cs ds 0 b
    (fun j c hc=>by
     have:j<us.size:=by rw[←r1.1];exact(aL.1 hc).1
     exact⟨us[j],by simp[this],r1.2 j c _ hc (by simp[this])⟩)
    (fun j c hc=>by
     have:j<vs.size:=by rw[←r2.1];exact(aL.1 hc).1
     exact⟨vs[j],by simp[this],r2.2 j c _ hc (by simp[this])⟩) (by omega) he
   rw[hl]at this;rw[this];cases b<;>simp
  have hg:(eqGuard (cJ neg) t x y (.agg us) (.agg vs)).run X.P w=.ok () w:=by
   cases neg<;>simp[eqGuard,cJ,h4]
  have he':(Op.equal t (.agg us) (.agg vs)).run X.P w=.ok b w:=hin 9999 ⟨9998,rfl⟩;rw[Sem.run_bind',hg];cases neg
  ·simp[cJ,binOp,he']
  ·simp[cJ,binOp,he']
 ·cases ht
theorem OA{isb:Bool}:∀(k:Nat) {cs ds:List PV} {b:Bool},dR isb cs ds=some b→cs.length=ds.length→∃r1 r2,dR isb (cs.take k) (ds.take k)=some r1∧dR isb (cs.drop k) (ds.drop k)=some r2∧b=(r1&&r2)
 |0,cs,ds,b,h,_=>⟨true,b,by simp[dR],by simpa using h,by simp⟩
 |k+1,[],[],b,h,_=>⟨true,b,by simp[dR],by simpa using h,by simp⟩
 |k+1,[],_::_,b,h,hl=>by simp at hl
 |k+1,_::_,[],b,h,hl=>by simp at hl
 |k+1,c::cs,d::ds,b,h,hl=>by
  obtain⟨r,hr,hcase⟩:=xp h;obtain⟨r1,r2,e1,e2,e3⟩:=OA k hr (by simpa using hl);rcases hcase with⟨rfl,x,y,rfl,rfl,hb⟩|⟨rfl,q,x,y,rfl,rfl,hb⟩
  ·refine⟨x==y&&r1,r2,?_,by simpa using e2,by rw[hb,e3,zE]⟩;simp[dR,e1]
  ·refine⟨x==y&&r1,r2,?_,by simpa using e2,by rw[hb,e3,zE]⟩;simp[dR,e1]
def nf(X:Tie)(g:Gh)(w:World)(us:Array Value)(off:Nat)(cs:List PV):Prop:=∀(j:Nat) (c:PV),cs[j]?=some c→∃u,us[off+j]?=some u∧VR X g w c u
def xq(X:Tie)(g:Gh)(w:World)(D:Nat)(t:TypeId)(n:Nat):Prop:=∀(us vs:Array Value) (off:Nat) (cs ds:List PV) (b:Bool),cs.length=n→ds.length=n→nf X g w us off cs→nf X g w vs off ds→dR false cs ds=some b →
 ∃x y,(part t us off).run X.P w=.ok x w∧(part t vs off).run X.P w=.ok y w∧(Op.equalIn D t x y).run X.P w=.ok b w
theorem OB{P:Program}{G:TypeId→Nat→Bool}:∀{l:List Field} {off n:Nat},jh P G l off n=true→off≤n
 | [],off,n,h=>by simp only[jh,beq_iff_eq]at h;omega
 |f::l,off,n,h=>by
  simp only[jh,aI]at h;have h3:=h.2;split at h3
  ·simp only[aI]at h3;have:=OB h3.2;omega
  ·cases h3
theorem OC{D:Nat}{G:TypeId→Nat→Bool}(hG:∀t n,G t n=true→(∃i,X.P.info? t=some i∧i.size=n)→xq X g w D t n)(us vs:Array Value):∀(l:List Field) (off n:Nat) (cs ds:List PV) (b:Bool),
  jh X.P G l off n=true→off+cs.length=n→cs.length=ds.length→nf X g w us off cs→nf X g w vs off ds→dR false cs ds=some b →
  ((forIn l (none,PUnit.unit) (fun f (_:Option Bool×PUnit)=>
    if f.name ≠ "_" then do
     let x ←part f.type us f.offset;let y ←part f.type vs f.offset;let r ←Op.equalIn D f.type x y
     if(!r)=true then pure (ForInStep.done (some false,PUnit.unit))else pure (ForInStep.yield (none,PUnit.unit))
    else pure (ForInStep.yield (none,PUnit.unit))):Sem (Option Bool×PUnit))).run X.P w=.ok (if b then none else some false,PUnit.unit) w
 | [],off,n,cs,ds,b,hf,hn,hl,_,_,he=>by
  simp only[jh,beq_iff_eq]at hf;have hc:cs=[]:=fW.1 (by omega);subst hc;have hd:ds=[]:=fW.1 (by simpa using hl.symm);subst hd;cases he
  simp
 |f::l,off,n,cs,ds,b,hf,hn,hl,hc,hd,he=>by
  simp only[jh,aI,bne_iff_ne,beq_iff_eq]at hf;obtain⟨⟨h1,h2⟩,h3⟩:=hf;split at h3
  ·rename_i i hi;simp only[aI]at h3;obtain⟨h3,h4⟩:=h3;have hle:=OB h4;obtain⟨r1,r2,e1,e2,rfl⟩:=OA i.size he hl
   obtain⟨x,y,p1,p2,p3⟩:=hG f.type i.size h3 ⟨i,hi,rfl⟩ us vs off (cs.take i.size) (ds.take i.size) r1 (by rw[iG];omega) (by rw[iG];omega)
    (fun j c hj=>hc j c (by
     have:j<i.size:=by have:=(aL.1 hj).1;rw[iG]at this;omega
     rwa [cT this]at hj))
    (fun j c hj=>hd j c (by
     have:j<i.size:=by have:=(aL.1 hj).1;rw[iG]at this;omega
     rwa [cT this]at hj)) e1
   have ih:=OC hG us vs l (off+i.size) n (cs.drop i.size) (ds.drop i.size) r2 h4 (by rw[oP];omega) (by rw[oP,oP];omega)
    (fun j c hj=>by
     rw[gK]at hj;have:=hc _ c hj
     rwa [←fq]at this)
    (fun j c hj=>by
     rw[gK]at hj;have:=hd _ c hj
     rwa [←fq]at this) e2
   rw[←h2]at p1 p2;simp only[tY,Sem.run_bind,ne_eq,h1,not_false_eq_true,if_true,p1,p2,p3,Result.andThen_ok];cases r1
   ·simp
   ·simp only[tT,bg,if_false,Sem.run_pure,Result.andThen_ok,zF];simpa using ih
  ·cases h3
def OD{D d n:Nat}{t:TypeId}{fs:Array Field}(hG:∀t n,kU X.P d t n=true→(∃i,X.P.info? t=some i∧i.size=n)→xq X g w D t n)(hu:X.P.underlying t=some (.struct fs))(hs:X.P.stoodInHeld t=false)
  (hf:jh X.P (kU X.P d) fs.toList 0 n=true){us vs:Array Value}{cs ds:List PV}{b:Bool}(hn:cs.length=n)(hl:cs.length=ds.length)(hc:nf X g w us 0 cs)(hd:nf X g w vs 0 ds)(he:dR false cs ds=some b) :
  (Op.equalIn (D+1) t (.agg us) (.agg vs)).run X.P w=.ok b w:=by
 have:=OC hG us vs fs.toList 0 n cs ds b hf (by omega) hl hc hd he;have hp:(program).run X.P w=.ok X.P w:=by simp
 simp only[Op.equalIn,Sem.run_bind,run_underlying hu,Result.andThen_ok,hp,hs,bg,if_false,←Array.forIn_toList,this];cases b<;>simp
theorem OE:∀(d:Nat) {D:Nat},d≤D→∀t n,kU X.P d t n=true→(∃i,X.P.info? t=some i∧i.size=n)→xq X g w D t n
 |0,D,_,t,n,h,_=>by simp[kU]at h
 |d+1,D,hD,t,n,h,⟨i,hi,hin⟩=>by
  obtain⟨D,rfl⟩:∃k,D=k+1:=⟨D-1,by omega⟩;intro us vs off cs ds b hn hl hc hd he;unfold kU at h;split at h
  ·rename_i k hu;simp only[beq_iff_eq]at h;subst h;have hag:(isAgg t).run X.P w=.ok false w:=by simp[isAgg,run_underlying hu]
   match cs,ds,hn,hl with
   | [c],[c'],_,_=>
    obtain⟨r,hr,hcase⟩:=xp he;cases hr;obtain⟨u,hu1,ru⟩:=hc 0 c rfl;obtain⟨v,hv1,rv⟩:=hd 0 c' rfl;simp only[eo]at hu1 hv1;refine⟨u,v,by simp[part,hag,hu1],by simp[part,hag,hv1],?_⟩;rcases hcase with⟨h,_⟩|⟨_,q,x,y,rfl,rfl,hb⟩
    ·cases h
    ·cases ru;cases rv;simp[Op.equalIn,run_underlying hu,hb]
  ·rename_i fs hu;simp only[aI,fV]at h;have hag:(isAgg t).run X.P w=.ok true w:=by simp[isAgg,run_underlying hu]
   have hsz:(Go.sizeOf t).run X.P w=.ok n w:=by simp[Go.sizeOf,typeInfo,hi,hin]
   refine⟨.agg (us.extract off (off+n)),.agg (vs.extract off (off+n)),by simp[part,hag,hsz],by simp[part,hag,hsz],?_⟩;refine OD (d:=d) (n:=n) (fun t n h k=>OE d (by omega) t n h k) hu h.1 h.2 hn (by omega) ?_ ?_ he
   ·intro j c hj;have hjn:j<n:=by rw[←hn];exact(aL.1 hj).1
    obtain⟨u,e1,e2⟩:=hc j c hj;refine⟨u,?_,e2⟩;rw[cd,zD];have:=(bc.1 e1).1;rw[if_pos (by omega)];exact e1
   ·intro j c hj;have hjn:j<n:=by rw[←hl];exact(aL.1 hj).1
    obtain⟨u,e1,e2⟩:=hd j c hj;refine⟨u,?_,e2⟩;rw[cd,zD];have:=(bc.1 e1).1;rw[if_pos (by omega)];exact e1
  ·cases h
def XR{neg:Bool}{m:Nat}{t:TypeId}{x y:Operand}{cs ds:List PV}{us vs:Array Value}{b:Bool}(ht:rI X.P t m=true)
  (hl:cs.length=m)(hl':ds.length=m)(he:dR false cs ds=some b)(r1:bD X g w cs us)(r2:bD X g w ds vs) :
  ((eqGuard (cJ neg) t x y (.agg us) (.agg vs)).bind fun _=>binOp (cJ neg) t (.agg us) (.agg vs)).run X.P w=.ok (.bool (if neg then !b else b)) w:=by
 unfold rI at ht;simp only[aI,fV]at ht;obtain⟨⟨h1,h2⟩,h4⟩:=ht;split at h1
 ·rename_i fs hu;unfold kU at h2;rw[hu]at h2;simp only[aI,fV]at h2
  have he':(Op.equal t (.agg us) (.agg vs)).run X.P w=.ok b w:=by
   refine OD (g:=g) (D:=9999) (d:=5) (n:=m) (fun t n h k=>OE 5 (by omega) t n h k) hu h2.1 h2.2 hl (by omega) ?_ ?_ he
   ·intro j c hc;have:j<us.size:=by rw[←r1.1];exact(aL.1 hc).1
    exact⟨us[j],by simp[this],r1.2 j c _ hc (by simp[this])⟩
   ·intro j c hc;have:j<vs.size:=by rw[←r2.1];exact(aL.1 hc).1
    exact⟨vs[j],by simp[this],r2.2 j c _ hc (by simp[this])⟩
  have hg:(eqGuard (cJ neg) t x y (.agg us) (.agg vs)).run X.P w=.ok () w:=by
   cases neg<;>simp[eqGuard,cJ,h4]
  rw[Sem.run_bind',hg];cases neg
  ·simp[cJ,binOp,he']
  ·simp[cJ,binOp,he']
 ·cases h1
end
end Ps
set_option linter.defProp false
namespace Ps
open Go
def dv(X:Tie):Prop:=∀a b,X.ty a=X.ty b→a=b
section
variable {X : Tie} {g : Gh} {w : World} {n : Dn} {fr : Fr} {a : Act}
def bk(X:Tie)(g:Gh)(w:World)(a:Act)(op:Go.Op)(v:PV):Prop:=
 ∀(dst:Option Tmp) (ty:TypeId) (pos:String) (after:Array Edge) (guard:Option (Nat×Bool)),
  ∃u,(execOp a.eval ⟨dst,op,ty,pos,after,guard⟩).run X.P w=.ok (.value u) w∧VR X g w v u
def OF{P:Program}{t:TypeId}(h:nG P t=true):∃d,P.underlying t=some d∧∀ms,d≠.interface ms:=by
 unfold nG at h;split at h
 ·cases h
 ·rename_i d hd hu;exact⟨d,hu,fun ms e=>hd ms e⟩
 ·cases h
def pi{P:Program}{t:TypeId}{k:IntKind}(h:gB P t k=true):P.underlying t=some (.int k):=by
 unfold gB at h;split at h
 ·rename_i j hu;simp only[beq_iff_eq]at h;subst h;exact hu
 ·cases h
def kz{P:Program}{t:TypeId}(h:fc P t=true):P.underlying t=some .string:=by
 unfold fc at h;split at h
 ·assumption
 ·cases h
def xr{P:Program}{t:TypeId}{sz:Nat}(h:kT P t sz=true):∃e i,P.underlying t=some (.slice e)∧P.info? e=some i∧i.size=sz:=by
 unfold kT at h;split at h
 ·rename_i e hu;split at h
  ·rename_i i hi;exact⟨e,i,hu,hi,by simpa using h⟩
  ·cases h
 ·cases h
def OG{P:Program}{t:TypeId}{len sz:Nat}(h:nF P t len sz=true):∃e i,P.underlying t=some (.array len e)∧P.info? e=some i∧i.size=sz:=by
 unfold nF at h;split at h
 ·rename_i m e hu;simp only[aI,beq_iff_eq]at h;obtain⟨rfl,h⟩:=h;split at h
  ·rename_i i hi;exact⟨e,i,hu,hi,by simpa using h⟩
  ·cases h
 ·cases h
def lA{c:Call}{b:Builtin}(hc:c.callee=.builtin b)(dst:Option Tmp)(ty:TypeId)(pos:String)(after:Array Edge)(guard:Option (Nat×Bool)) :
  ∃consts,execOp a.eval ⟨dst,.call c,ty,pos,after,guard⟩=builtin b c.argTypes ty consts (c.args.map a.eval):=by
 obtain⟨callee,args,tys⟩:=c;simp only at hc;subst hc;exact⟨_,rfl⟩
def ng{c:Call}{x:Operand}(h:c.args.toList=[x]):c.args = #[x]:=by
 have:=congrArg List.toArray h;simpa using this
def pj{c:Call}{x y:Operand}(h:c.args.toList=[x,y]):c.args = #[x,y]:=by
 have:=congrArg List.toArray h;simpa using this
def nh{c:Call}{x:TypeId}(h:c.argTypes.toList=[x]):c.argTypes = #[x]:=by
 have:=congrArg List.toArray h;simpa using this
def sQ{c:Call}{x y:TypeId}(h:c.argTypes.toList=[x,y]):c.argTypes = #[x,y]:=by
 have:=congrArg List.toArray h;simpa using this
def xu(hF:FR X n g w fr a){op:Go.Op}{y:aG}(hc:rJ X y op=true):bk X g w a op (ev fr y):=by
 intro dst ty pos after guard;unfold rJ at hc;split at hc
 ·exact⟨_,by simp only[execOp];rfl,af hF hc⟩
 ·exact⟨_,by simp only[execOp];rfl,af hF hc⟩
 ·rename_i c;split at hc
  ·rename_i h1 h2 h3;split at hc
   ·rename_i m e hu;simp only[beq_iff_eq]at hc;subst hc;obtain⟨consts,hb⟩:=lA (a:=a) h1 dst ty pos after guard;rw[hb,ng h2,nh h3];exact⟨_,by simp[builtin,Builtin.len_,run_underlying hu,goInt]<;>rfl,.int _ _⟩
   ·cases hc
  ·cases hc
 ·cases hc
def XS(hF:FR X n g w fr a){c x y:aG}{c' x' y':Operand}(hc:aK X c' c=true)(hx:aK X x' x=true)(hy:aK X y' y=true){v:PV}
  (hv:aQ fr (.pick c x y)=some v):bk X g w a (.pick c' x' y') v:=by
 intro dst ty pos after guard;have rc:=af hF hc;simp only[aQ]at hv;split at hv
 ·rename_i e;cases hv;rw[e]at rc;generalize hu:a.eval c'=u at rc;cases rc;exact⟨_,by simp[execOp,hu,asBool]<;>rfl,af hF hx⟩
 ·rename_i e;cases hv;rw[e]at rc;generalize hu:a.eval c'=u at rc;cases rc;exact⟨_,by simp[execOp,hu,asBool]<;>rfl,af hF hy⟩
 ·cases hv
def XT(hF:FR X n g w fr a){x:aG}{x':Operand}(hx:aK X x' x=true){v:PV}(hv:aQ fr (.nilck x)=some v):bk X g w a (.nilCheck x') v:=by
 intro dst ty pos after guard;have r:=af hF hx;simp only[aQ]at hv;generalize hu:a.eval x'=u at r;generalize hp:ev fr x=p at r hv;have hr:=r;cases r<;>simp only at hv<;>try (cases hv;done)
 all_goals
  simp only[ae]at hv;subst hv;exact⟨_,by simp[execOp,hu]<;>rfl,hr⟩
def pk{o:BinOp}{t:TypeId}{x y:Operand}{yt:TypeId}{u:Value}(h:((eqGuard o t x y (a.eval x) (a.eval y)).bind fun _=>binOp o t (a.eval x) (a.eval y)).run X.P w=.ok u w)
  (dst:Option Tmp) (ty:TypeId) (pos:String) (after:Array Edge) (guard:Option (Nat×Bool)) :
  (execOp a.eval ⟨dst,.binOp o t x y yt,ty,pos,after,guard⟩).run X.P w=.ok (.value u) w:=by
 have h':(do eqGuard o t x y (a.eval x) (a.eval y);binOp o t (a.eval x) (a.eval y):Sem Value).run X.P w=.ok u w:=h;simp only[execOp,Sem.run_bind];simp only[Sem.run_bind]at h';rw[h'];rfl
def XU(hF:FR X n g w fr a){o:BinOp}{x y:aG}{x' y':Operand}{t yt:TypeId}(hx:aK X x' x=true)(hy:aK X y' y=true){v:PV}
  (hv:aQ fr (.arith o x y)=some v):bk X g w a (.binOp o t x' y' yt) v:=by
 intro dst ty pos after guard;obtain⟨u,h1,h2⟩:=XF (t:=t) (x:=x') (y:=y') hv (af hF hx) (af hF hy);exact⟨u,pk h1 _ _ _ _ _,h2⟩
def XV(hF:FR X n g w fr a){neg:Bool}{x y:aG}{x' y':Operand}{t yt:TypeId}(ht:lb X.P t=true)(hx:aK X x' x=true)(hy:aK X y' y=true){v:PV}
  (hv:aQ fr (.eqb neg x y)=some v):bk X g w a (.binOp (cJ neg) t x' y' yt) v:=by
 intro dst ty pos after guard;have r1:=af hF hx;have r2:=af hF hy;simp only[aQ]at hv;split at hv
 ·rename_i b c e1 e2;cases hv;rw[e1]at r1;rw[e2]at r2;refine⟨_,pk (u:=.bool (if neg then !(b==c)else b==c)) ?_ _ _ _ _ _,.bool _⟩;generalize hu1:a.eval x'=u1 at r1;generalize hu2:a.eval y'=u2 at r2;cases r1;cases r2;exact XG ht
 ·cases hv
def XW(hF:FR X n g w fr a){neg:Bool}{k:NK}{x:aG}{x' y':Operand}{t yt:TypeId}(ht:iM X.P t k y'=true)(hx:aK X x' x=true){v:PV}
  (hv:aQ fr (.eqn neg k x)=some v):bk X g w a (.binOp (cJ neg) t x' y' yt) v:=by
 intro dst ty pos after guard;simp only[aQ]at hv;split at hv
 ·rename_i b e;cases hv;exact⟨_,pk (XJ ht e (af hF hx)) _ _ _ _ _,.bool _⟩
 ·cases hv
def XX(hF:FR X n g w fr a){neg isb:Bool}{m:Nat}{x y:aG}{x' y':Operand}{t yt:TypeId}(ht:rH X.P t isb m=true)(hx:aK X x' x=true)(hy:aK X y' y=true){v:PV}
  (hv:aQ fr (.eqa neg isb m x y)=some v):bk X g w a (.binOp (cJ neg) t x' y' yt) v:=by
 intro dst ty pos after guard;have r1:=af hF hx;have r2:=af hF hy;simp only[aQ]at hv;split at hv
 ·rename_i cs ds e1 e2;rw[e1]at r1;rw[e2]at r2;split at hv
  ·rename_i hl;split at hv
   ·rename_i b he;cases hv;refine⟨_,pk (u:=.bool (if neg then !b else b)) ?_ _ _ _ _ _,.bool _⟩;generalize hu1:a.eval x'=u1 at r1;generalize hu2:a.eval y'=u2 at r2
    cases r1 with
    |agg _ us hl1 hv1=>
     cases r2 with
     |agg _ vs hl2 hv2=>exact XQ ht hl.1 hl.2 he ⟨hl1,hv1⟩ ⟨hl2,hv2⟩
   ·cases hv
  ·cases hv
 ·cases hv
def XY(hF:FR X n g w fr a){neg:Bool}{m:Nat}{x y:aG}{x' y':Operand}{t yt:TypeId}(ht:rI X.P t m=true)(hx:aK X x' x=true)(hy:aK X y' y=true){v:PV}
  (hv:aQ fr (.eqs neg m x y)=some v):bk X g w a (.binOp (cJ neg) t x' y' yt) v:=by
 intro dst ty pos after guard;have r1:=af hF hx;have r2:=af hF hy;simp only[aQ]at hv;split at hv
 ·rename_i cs ds e1 e2;rw[e1]at r1;rw[e2]at r2;split at hv
  ·rename_i hl;split at hv
   ·rename_i b he;cases hv;refine⟨_,pk (u:=.bool (if neg then !b else b)) ?_ _ _ _ _ _,.bool _⟩;generalize hu1:a.eval x'=u1 at r1;generalize hu2:a.eval y'=u2 at r2
    cases r1 with
    |agg _ us hl1 hv1=>
     cases r2 with
     |agg _ vs hl2 hv2=>exact XR ht hl.1 hl.2 he ⟨hl1,hv1⟩ ⟨hl2,hv2⟩
   ·cases hv
  ·cases hv
 ·cases hv
def XZ(hF:FR X n g w fr a){o:UnOp}{x:aG}{x':Operand}{t:TypeId}(hx:aK X x' x=true){v:PV}(hv:aQ fr (.un o x)=some v):bk X g w a (.unOp o t x') v:=by
 intro dst ty pos after guard;have r:=af hF hx;simp only[aQ]at hv;generalize hu:a.eval x'=u at r;generalize hp:ev fr x=p at r hv;unfold unOp at hv;split at hv
 ·cases hv;cases r;exact⟨_,by simp[execOp,hu,Op.unary]<;>rfl,.bool _⟩
 ·cases hv;cases r;exact⟨_,by simp[execOp,hu,Op.unary,Op.intArith]<;>rfl,.int _ _⟩
 ·cases hv;cases r;exact⟨_,by simp[execOp,hu,Op.unary,Op.intBits]<;>rfl,.int _ _⟩
 ·cases hv
def Xa(hF:FR X n g w fr a){k:IntKind}{x:aG}{x':Operand}{s d:TypeId}(hs:(X.P.underlying s).isSome=true)(hd:gB X.P d k=true)(hx:aK X x' x=true){v:PV}
  (hv:aQ fr (.toInt k x)=some v):bk X g w a (.convert s d x') v:=by
 intro dst ty pos after guard;have r:=af hF hx;simp only[aQ]at hv;split at hv
 ·rename_i j m e;cases hv;rw[e]at r;generalize hu:a.eval x'=u at r;cases r;obtain⟨ds,hds⟩:=oT.1 hs;exact⟨_,by simp[execOp,hu,convert,run_underlying hds,run_underlying (pi hd),Conv.intToInt]<;>rfl,.int _ _⟩
 ·cases hv
def Xb(hF:FR X n g w fr a){x:aG}{x':Operand}{s d:TypeId}(hs:(X.P.underlying s).isSome=true)(hd:fc X.P d=true)(hx:aK X x' x=true){v:PV}
  (hv:aQ fr (.strId x)=some v):bk X g w a (.convert s d x') v:=by
 intro dst ty pos after guard;have r:=af hF hx;simp only[aQ]at hv;split at hv
 ·rename_i j e;cases hv;rw[e]at r;generalize hu:a.eval x'=u at r;cases r;obtain⟨ds,hds⟩:=oT.1 hs;exact⟨_,by simp[execOp,hu,convert,run_underlying hds,run_underlying (kz hd)]<;>rfl,.str _⟩
 ·cases hv
def Xc(hF:FR X n g w fr a){ag:Bool}{off m f:Nat}{x:aG}{x':Operand}{t:TypeId}
  (ht:(match X.P.underlying t with|some (.struct fs)=>(match fs[f]? with|some g=>g.offset==off&&gR X.P g.type ag m|none=>false)|_=>false)=true)
  (hx:aK X x' x=true){v:PV}(hv:aQ fr (.field ag off m x)=some v):bk X g w a (.field t x' f) v:=by
 intro dst ty pos after guard;have r:=af hF hx;simp only[aQ]at hv;split at ht
 ·rename_i fs hu;split at ht
  ·rename_i fd hfd;simp only[aI,beq_iff_eq]at ht;obtain⟨rfl,ht⟩:=ht;split at hv
   ·rename_i cs e;rw[e]at r;generalize hux:a.eval x'=u at r
    cases r with
    |agg _ us hl hv1=>
     obtain⟨u,h1,h2⟩:=Nr ht hv hl hv1;exact⟨u,by simp[execOp,hux,Instr.field,run_underlying hu,hfd,asAgg,h1],h2⟩
   ·cases hv
  ·cases ht
 ·cases ht
def Xd(hF:FR X n g w fr a){t:Nat}{x:aG}{x':Operand}(ht:nG X.P (X.ty t)=true)(hx:aK X x' x=true) :
  bk X g w a (.makeInterface (X.ty t) x') (.iface t (ev fr x)):=by
 intro dst ty pos after guard;obtain⟨d,hu,hd⟩:=OF ht;refine⟨.iface (X.ty t) (a.eval x'),?_,.iface _ _ _ (af hF hx)⟩;simp only[execOp,Instr.makeInterface,Sem.run_bind,run_underlying hu,Result.andThen_ok];cases d<;>first|rfl|exact(hd _ rfl).elim
def Xe(hF:FR X n g w fr a){f:Nat}{caps:List aG}{first cs:Array Operand}(h0:first.size=0)(hx:eL X cs.toList caps=true) :
  bk X g w a (.makeFunc (.func (X.fnOf f)) first cs) (.fn f (caps.map (ev fr))):=by
 intro dst ty pos after guard;have e:first = #[]:=qY h0
 subst e;obtain⟨h1,h2⟩:=sJ hF hx;refine⟨.func (.func (X.fnOf f)) #[] (cs.map a.eval),by simp[execOp,Instr.makeFunc],.fn _ _ _ (by simpa using h1) (fun j c u e1 e2=>h2 j c u e1 (by simpa using e2))⟩
def Xf(hF:FR X n g w fr a){f:Nat}{first:List aG}{fs cs:Array Operand}(h0:cs.size=0)(hx:eL X fs.toList first=true) :
  bk X g w a (.makeFunc (.func (X.fnOf f)) fs cs) (.bfn f (first.map (ev fr))):=by
 intro dst ty pos after guard;have e:cs = #[]:=qY h0;subst e;obtain⟨h1,h2⟩:=sJ hF hx;refine⟨.func (.func (X.fnOf f)) (fs.map a.eval) #[],by simp[execOp,Instr.makeFunc],.bfn _ _ _ (by simpa using h1) (fun j c u e1 e2=>h2 j c u e1 (by simpa using e2))⟩
def Xg(hF:FR X n g w fr a){i:Nat}{x:aG}{x':Operand}(hx:aK X x' x=true){v:PV}(hv:aQ fr (.extract i x)=some v):bk X g w a (.extract x' i) v:=by
 intro dst ty pos after guard;have r:=af hF hx;simp only[aQ]at hv;split at hv
 ·rename_i vs e;rw[e]at r;generalize hux:a.eval x'=u at r
  cases r with
  |tup _ us hl hv1=>
   have hi:i<us.size:=by rw[←hl];exact(aL.1 hv).1
   exact⟨us[i],by simp[execOp,hux,Instr.extract,hi],hv1 i v _ hv (by simp[hi])⟩
 ·cases hv
def xw{P:Program}{t:TypeId}{z:PV}(h:jB P t z=true):∃u,(zeroValue t).run P w=.ok u w∧oj u z=true:=by
 unfold jB at h;split at h
 ·rename_i i hi;split at h
  ·rename_i u hu;exact⟨u,by simp[zeroValue,typeInfo,hi,hu],h⟩
  ·cases h
 ·cases h
def Xh(hty:dv X)(hF:FR X n g w fr a){t:Nat}{ok:Bool}{z:PV}{x:aG}{x':Operand}{xt:TypeId}(ht:nG X.P (X.ty t)=true)(hz:jB X.P (X.ty t) z=true)
  (hx:aK X x' x=true){v:PV}(hv:aQ fr (.assert t ok z x)=some v):bk X g w a (.typeAssert x' xt (X.ty t) ok) v:=by
 intro dst ty pos after guard;have r:=af hF hx;obtain⟨d,hu,hd⟩:=OF ht;obtain⟨zu,hz1,hz2⟩:=xw (w:=w) hz
 have fail:∀u:Value,(u=.nilIface∨∃t' v',u=.iface t' v'∧t'≠X.ty t)→ok=true →
   (Instr.typeAssert u xt (X.ty t) ok).run X.P w=.ok (.tuple #[zu,.bool false]) w:=by
  intro u h1 h2;subst h2;rcases h1 with rfl|⟨t',v',rfl,hne⟩
  ·simp only[Instr.typeAssert,Sem.run_bind,run_underlying hu,Result.andThen_ok];cases d<;>first|(exact(hd _ rfl).elim)|simp[hz1]
  ·simp only[Instr.typeAssert,Sem.run_bind,run_underlying hu,Result.andThen_ok];cases d<;>first|(exact(hd _ rfl).elim)|simp[hz1,hne]
 have two:∀{c d:PV} {u1 u2:Value},VR X g w c u1→VR X g w d u2→VR X g w (.tup [c,d]) (.tuple #[u1,u2]):=by
  intro c d u1 u2 r1 r2;refine .tup _ _ rfl (fun j x u e1 e2=>?_)
  match j with
  |0=>simp at e1 e2;subst e1;subst e2;exact r1
  |1=>simp at e1 e2;subst e1;subst e2;exact r2
  |j+2=>simp at e1
 simp only[aQ]at hv;split at hv
 ·rename_i e;rw[e]at r;generalize hux:a.eval x'=u at r;cases r;split at hv
  ·rename_i hok;cases hv;exact⟨_,by simp only[execOp,Sem.run_bind,hux,fail .nilIface (.inl rfl) hok];rfl,two (mJ hz2) (.bool _)⟩
  ·cases hv
 ·rename_i t' v0 e;rw[e]at r;generalize hux:a.eval x'=u at r
  cases r with
  |iface _ _ u0 hv0=>
   split at hv
   ·rename_i heq;subst heq;cases hv;cases ok
    ·refine⟨u0,?_,hv0⟩;simp only[execOp,Sem.run_bind,hux,Instr.typeAssert,run_underlying hu,Result.andThen_ok];cases d<;>first|(exact(hd _ rfl).elim)|simp
    ·refine⟨.tuple #[u0,.bool true],?_,two hv0 (.bool _)⟩;simp only[execOp,Sem.run_bind,hux,Instr.typeAssert,run_underlying hu,Result.andThen_ok];cases d<;>first|(exact(hd _ rfl).elim)|simp
   ·rename_i hne;split at hv
    ·rename_i hok;cases hv;exact⟨_,by simp only[execOp,Sem.run_bind,hux,fail _ (.inr ⟨X.ty t',u0,rfl,fun h=>hne (hty _ _ h)⟩) hok];rfl,two (mJ hz2) (.bool _)⟩
    ·cases hv
 ·cases hv
def Xi(hF:FR X n g w fr a){l:List Nat}{x:aG}{x':Operand}{xt u:TypeId}{want:Array (String×TypeId)}(hu:X.P.underlying u=some (.interface want))
  (hl:(l.all fun t=>match X.P.info? (X.ty t)with|some i=>(Instr.missingMethod want i.methods).isNone|none=>false)=true)
  (hx:aK X x' x=true){v:PV}(hv:aQ fr (.asrI l x)=some v):bk X g w a (.typeAssert x' xt u true) v:=by
 intro dst ty pos after guard;have r:=af hF hx;simp only[aQ]at hv;split at hv
 ·rename_i t v0 e;split at hv
  ·rename_i hmem;cases hv;rw[e]at r;generalize hux:a.eval x'=q at r;have hr:=r
   cases r with
   |iface _ _ u0 hv0=>
    have h1:=List.all_eq_true.1 hl t (by simpa using hmem)
    cases hi:X.P.info? (X.ty t)with
    |none=>rw[hi]at h1;cases h1
    |some i=>
     rw[hi]at h1;have h2:Instr.missingMethod want i.methods=none:=by simpa using h1
     refine⟨.tuple #[.iface (X.ty t) u0,.bool true],?_,.tup _ _ rfl (fun j c y e1 e2=>?_)⟩
     ·simp[execOp,hux,Instr.typeAssert,run_underlying hu,typeInfo,hi,h2]
     ·match j with
      |0=>simp at e1 e2;subst e1;subst e2;exact hr
      |1=>simp at e1 e2;subst e1;subst e2;exact .bool _
      |j+2=>simp at e1
  ·cases hv
 ·cases hv
end
end Ps
