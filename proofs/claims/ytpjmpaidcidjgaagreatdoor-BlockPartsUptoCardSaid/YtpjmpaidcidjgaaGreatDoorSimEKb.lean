/- Whatever only computes: the model's run hands back what stands for the pure value. -/
import Derived.Test.YtpjmpaidcidjgaaGreatDoorDefsKb
import Derived.Test.YtpjmpaidcidjgaaGreatDoorSimCKb
set_option linter.defProp false
namespace Ps
open Go
section
variable {X : Tie} {g : Gh} {w : World} {n : Dn} {fr : Fr} {a : Act}
def Cx{isb:Bool}{c d:PV}{l m:List PV}{b:Bool}(h:eJ isb (c::l) (d::m)=some b) :
  ∃r,eJ isb l m=some r∧((isb=true∧∃x y,c=.bool x∧d=.bool y∧b=(x==y&&r))∨(isb=false∧∃k x y,c=.int k x∧d=.int k y∧b=(x==y&&r))):=by
 unfold eJ at h;split at h
 ·rename_i heq;cases heq
 ·rename_i x l' y m' h1 h2;cases h1;cases h2;split at h
  ·rename_i hb;split at h
   ·rename_i r hr;cases h;exact⟨r,hr,.inl ⟨hb,x,y,rfl,rfl,rfl⟩⟩
   ·cases h
  ·cases h
 ·rename_i k x l' j y m' h1 h2;cases h1;cases h2;split at h
  ·rename_i hk;simp only[aJ,iG,decide_eq_true_eq]at hk;obtain⟨hb,hk⟩:=hk;subst hk;split at h
   ·rename_i r hr;cases h;exact⟨r,hr,.inr ⟨hb,k,x,y,rfl,rfl,rfl⟩⟩
   ·cases h
  ·cases h
 ·cases h
theorem TF(isb:Bool)(d:Nat)(e:TypeId)(us vs:Array Value)(hsz:(Go.sizeOf e).run X.P w=.ok 1 w)(hag:(isAgg e).run X.P w=.ok false w)
  (he:if isb then X.P.underlying e=some .bool else ∃k,X.P.underlying e=some (.int k)):∀(cs ds:List PV) (i:Nat) (b:Bool),
  (∀(j:Nat) (c:PV),cs[j]?=some c→∃u,us[i+j]?=some u∧VR X g w c u)→(∀(j:Nat) (c:PV),ds[j]?=some c→∃u,vs[i+j]?=some u∧VR X g w c u) →
  cs.length=ds.length→eJ isb cs ds=some b →
  ((forIn (List.range' i cs.length) (none,PUnit.unit) (fun i (_:Option Bool×PUnit)=>do
    let x ←part e us (i*1);let y ←part e vs (i*1);let r ←Op.equalIn (d+1) e x y
    if(!r)=true then pure (ForInStep.done (some false,PUnit.unit))else pure (ForInStep.yield (none,PUnit.unit))):Sem (Option Bool×PUnit))).run X.P w=.ok (if b then none else some false,PUnit.unit) w
 | [],[],i,b,_,_,_,h=>by cases h;simp
 | [],_::_,_,_,_,_,hl,_=>by simp at hl
 |_::_,[],_,_,_,_,hl,_=>by simp at hl
 |c::cs,c'::ds,i,b,hc,hd,hl,h=>by
  obtain⟨r,hr,hcase⟩:=Cx h;obtain⟨u,hu,ru⟩:=hc 0 c rfl;obtain⟨v,hv,rv⟩:=hd 0 c' rfl
  have ih:=TF isb d e us vs hsz hag he cs ds (i+1) r
   (fun j x hx=>by have:=hc (j+1) x (by simpa using hx);rwa [show i+(j+1)=i+1+j by omega]at this)
   (fun j x hx=>by have:=hd (j+1) x (by simpa using hx);rwa [show i+(j+1)=i+1+j by omega]at this) (by simpa using hl) hr
  simp only[gU]at hu hv;have p1:(part e us (i*1)).run X.P w=.ok u w:=by simp[part,hag,hu]
  have p2:(part e vs (i*1)).run X.P w=.ok v w:=by simp[part,hag,hv]
  simp only[bL,mU,xn,Sem.run_bind,p1,p2,Result.andThen_ok]
  have hq:∃q,(Op.equalIn (d+1) e u v).run X.P w=.ok q w∧b=(q&&r):=by
   rcases hcase with⟨rfl,x,y,rfl,rfl,hb⟩|⟨rfl,k,x,y,rfl,rfl,hb⟩
   ·cases ru;cases rv;simp only[if_true]at he;exact⟨x==y,by simp[Op.equalIn,run_underlying he],hb⟩
   ·cases ru;cases rv;simp only[cH,if_false]at he;obtain⟨k',he⟩:=he;exact⟨x==y,by simp[Op.equalIn,run_underlying he],hb⟩
  obtain⟨q,hq1,hq2⟩:=hq;rw[hq1];simp only[Result.andThen_ok];cases q
  ·simp only[hq2];simp
  ·simp only[xh,cH,if_false,Sem.run_pure,Result.andThen_ok];rw[hq2];simpa using ih
def aCN{neg isb:Bool}{m:Nat}{t:TypeId}{x y:Operand}{cs ds:List PV}{us vs:Array Value}{b:Bool}(ht:vM X.P t isb m=true)
  (hl:cs.length=m)(hl':ds.length=m)(he:eJ isb cs ds=some b)(r1:bX X g w cs us)(r2:bX X g w ds vs) :
  ((eqGuard (dK neg) t x y (.agg us) (.agg vs)).bind fun _=>binOp (dK neg) t (.agg us) (.agg vs)).run X.P w=.ok (.bool (if neg then !b else b)) w:=by
 unfold vM at ht;split at ht
 ·rename_i m' e hu;simp only[aJ,beq_iff_eq,iG]at ht;obtain⟨⟨⟨rfl,h2⟩,h3⟩,h4⟩:=ht
  have hsz:(Go.sizeOf e).run X.P w=.ok 1 w:=by
   split at h2
   ·rename_i i hi;simp only[beq_iff_eq]at h2;simp[Go.sizeOf,typeInfo,hi,h2]
   ·cases h2
  have hag:(isAgg e).run X.P w=.ok false w:=by
   split at h3
   ·rename_i hu;simp[isAgg,run_underlying hu]
   ·rename_i hu;simp[isAgg,run_underlying hu]
   ·cases h3
  have hee:if isb then X.P.underlying e=some .bool else ∃k,X.P.underlying e=some (.int k):=by
   split at h3
   ·rename_i hu;simp[h3,hu]
   ·rename_i k hu;simp only[iG]at h3;simp[h3,hu]
   ·cases h3
  have hin:∀D,(∃d,D=d+1)→(Op.equalIn (D+1) t (.agg us) (.agg vs)).run X.P w=.ok b w:=by
   intro D hD;simp only[Op.equalIn,Sem.run_bind,run_underlying hu,Result.andThen_ok,hsz,Std.Legacy.Range.forIn_eq_forIn_range',Std.Legacy.Range.size,uX,nq,xx];obtain⟨d,rfl⟩:=hD
   have:=TF isb d e us vs hsz hag hee cs ds 0 b
    (fun j c hc=>by
     have:j<us.size:=by rw[←r1.1];exact(aM.1 hc).1
     exact⟨us[j],by simp[this],r1.2 j c _ hc (by simp[this])⟩)
    (fun j c hc=>by
     have:j<vs.size:=by rw[←r2.1];exact(aM.1 hc).1
     exact⟨vs[j],by simp[this],r2.2 j c _ hc (by simp[this])⟩) (by omega) he
   rw[hl]at this;rw[this];cases b<;>simp
  have hg:(eqGuard (dK neg) t x y (.agg us) (.agg vs)).run X.P w=.ok () w:=by
   cases neg<;>simp[eqGuard,dK,h4]
  have he':(Op.equal t (.agg us) (.agg vs)).run X.P w=.ok b w:=hin 9999 ⟨9998,rfl⟩;rw[Sem.run_bind',hg];cases neg
  ·simp[dK,binOp,he']
  ·simp[dK,binOp,he']
 ·cases ht
theorem TG{isb:Bool}:∀(k:Nat) {cs ds:List PV} {b:Bool},eJ isb cs ds=some b→cs.length=ds.length→∃r1 r2,eJ isb (cs.take k) (ds.take k)=some r1∧eJ isb (cs.drop k) (ds.drop k)=some r2∧b=(r1&&r2)
 |0,cs,ds,b,h,_=>⟨true,b,by simp[eJ],by simpa using h,by simp⟩
 |k+1,[],[],b,h,_=>⟨true,b,by simp[eJ],by simpa using h,by simp⟩
 |k+1,[],_::_,b,h,hl=>by simp at hl
 |k+1,_::_,[],b,h,hl=>by simp at hl
 |k+1,c::cs,d::ds,b,h,hl=>by
  obtain⟨r,hr,hcase⟩:=Cx h;obtain⟨r1,r2,e1,e2,e3⟩:=TG k hr (by simpa using hl);rcases hcase with⟨rfl,x,y,rfl,rfl,hb⟩|⟨rfl,q,x,y,rfl,rfl,hb⟩
  ·refine⟨x==y&&r1,r2,?_,by simpa using e2,by rw[hb,e3,EK]⟩;simp[eJ,e1]
  ·refine⟨x==y&&r1,r2,?_,by simpa using e2,by rw[hb,e3,EK]⟩;simp[eJ,e1]
def qc(X:Tie)(g:Gh)(w:World)(us:Array Value)(off:Nat)(cs:List PV):Prop:=∀(j:Nat) (c:PV),cs[j]?=some c→∃u,us[off+j]?=some u∧VR X g w c u
def Cy(X:Tie)(g:Gh)(w:World)(D:Nat)(t:TypeId)(n:Nat):Prop:=∀(us vs:Array Value) (off:Nat) (cs ds:List PV) (b:Bool),cs.length=n→ds.length=n→qc X g w us off cs→qc X g w vs off ds→eJ false cs ds=some b →
 ∃x y,(part t us off).run X.P w=.ok x w∧(part t vs off).run X.P w=.ok y w∧(Op.equalIn D t x y).run X.P w=.ok b w
theorem TH{P:Program}{G:TypeId→Nat→Bool}:∀{l:List Field} {off n:Nat},lZ P G l off n=true→off≤n
 | [],off,n,h=>by simp only[lZ,beq_iff_eq]at h;omega
 |f::l,off,n,h=>by
  simp only[lZ,aJ]at h;have h3:=h.2;split at h3
  ·simp only[aJ]at h3;have:=TH h3.2;omega
  ·cases h3
theorem TI{D:Nat}{G:TypeId→Nat→Bool}(hG:∀t n,G t n=true→(∃i,X.P.info? t=some i∧i.size=n)→Cy X g w D t n)(us vs:Array Value):∀(l:List Field) (off n:Nat) (cs ds:List PV) (b:Bool),
  lZ X.P G l off n=true→off+cs.length=n→cs.length=ds.length→qc X g w us off cs→qc X g w vs off ds→eJ false cs ds=some b →
  ((forIn l (none,PUnit.unit) (fun f (_:Option Bool×PUnit)=>
    if f.name ≠ "_" then do
     let x ←part f.type us f.offset;let y ←part f.type vs f.offset;let r ←Op.equalIn D f.type x y
     if(!r)=true then pure (ForInStep.done (some false,PUnit.unit))else pure (ForInStep.yield (none,PUnit.unit))
    else pure (ForInStep.yield (none,PUnit.unit))):Sem (Option Bool×PUnit))).run X.P w=.ok (if b then none else some false,PUnit.unit) w
 | [],off,n,cs,ds,b,hf,hn,hl,_,_,he=>by
  simp only[lZ,beq_iff_eq]at hf;have hc:cs=[]:=jV.1 (by omega);subst hc;have hd:ds=[]:=jV.1 (by simpa using hl.symm);subst hd;cases he
  simp
 |f::l,off,n,cs,ds,b,hf,hn,hl,hc,hd,he=>by
  simp only[lZ,aJ,bne_iff_ne,beq_iff_eq]at hf;obtain⟨⟨h1,h2⟩,h3⟩:=hf;split at h3
  ·rename_i i hi;simp only[aJ]at h3;obtain⟨h3,h4⟩:=h3;have hle:=TH h4;obtain⟨r1,r2,e1,e2,rfl⟩:=TG i.size he hl
   obtain⟨x,y,p1,p2,p3⟩:=hG f.type i.size h3 ⟨i,hi,rfl⟩ us vs off (cs.take i.size) (ds.take i.size) r1 (by rw[iW];omega) (by rw[iW];omega)
    (fun j c hj=>hc j c (by
     have:j<i.size:=by have:=(aM.1 hj).1;rw[iW]at this;omega
     rwa [dH this]at hj))
    (fun j c hj=>hd j c (by
     have:j<i.size:=by have:=(aM.1 hj).1;rw[iW]at this;omega
     rwa [dH this]at hj)) e1
   have ih:=TI hG us vs l (off+i.size) n (cs.drop i.size) (ds.drop i.size) r2 h4 (by rw[kd];omega) (by rw[kd,kd];omega)
    (fun j c hj=>by
     rw[iu]at hj;have:=hc _ c hj
     rwa [←dk]at this)
    (fun j c hj=>by
     rw[iu]at hj;have:=hd _ c hj
     rwa [←dk]at this) e2
   rw[←h2]at p1 p2;simp only[xn,Sem.run_bind,ne_eq,h1,not_false_eq_true,if_true,p1,p2,p3,Result.andThen_ok];cases r1
   ·simp
   ·simp only[xh,cH,if_false,Sem.run_pure,Result.andThen_ok,Bool.true_and];simpa using ih
  ·cases h3
def TJ{D d n:Nat}{t:TypeId}{fs:Array Field}(hG:∀t n,mm X.P d t n=true→(∃i,X.P.info? t=some i∧i.size=n)→Cy X g w D t n)(hu:X.P.underlying t=some (.struct fs))(hs:X.P.stoodInHeld t=false)
  (hf:lZ X.P (mm X.P d) fs.toList 0 n=true){us vs:Array Value}{cs ds:List PV}{b:Bool}(hn:cs.length=n)(hl:cs.length=ds.length)(hc:qc X g w us 0 cs)(hd:qc X g w vs 0 ds)(he:eJ false cs ds=some b) :
  (Op.equalIn (D+1) t (.agg us) (.agg vs)).run X.P w=.ok b w:=by
 have:=TI hG us vs fs.toList 0 n cs ds b hf (by omega) hl hc hd he;have hp:(program).run X.P w=.ok X.P w:=by simp
 simp only[Op.equalIn,Sem.run_bind,run_underlying hu,Result.andThen_ok,hp,hs,cH,if_false,←Array.forIn_toList,this];cases b<;>simp
theorem TK:∀(d:Nat) {D:Nat},d≤D→∀t n,mm X.P d t n=true→(∃i,X.P.info? t=some i∧i.size=n)→Cy X g w D t n
 |0,D,_,t,n,h,_=>by simp[mm]at h
 |d+1,D,hD,t,n,h,⟨i,hi,hin⟩=>by
  obtain⟨D,rfl⟩:∃k,D=k+1:=⟨D-1,by omega⟩;intro us vs off cs ds b hn hl hc hd he;unfold mm at h;split at h
  ·rename_i k hu;simp only[beq_iff_eq]at h;subst h;have hag:(isAgg t).run X.P w=.ok false w:=by simp[isAgg,run_underlying hu]
   match cs,ds,hn,hl with
   | [c],[c'],_,_=>
    obtain⟨r,hr,hcase⟩:=Cx he;cases hr;obtain⟨u,hu1,ru⟩:=hc 0 c rfl;obtain⟨v,hv1,rv⟩:=hd 0 c' rfl;simp only[gU]at hu1 hv1;refine⟨u,v,by simp[part,hag,hu1],by simp[part,hag,hv1],?_⟩;rcases hcase with⟨h,_⟩|⟨_,q,x,y,rfl,rfl,hb⟩
    ·cases h
    ·cases ru;cases rv;simp[Op.equalIn,run_underlying hu,hb]
  ·rename_i fs hu;simp only[aJ,iG]at h;have hag:(isAgg t).run X.P w=.ok true w:=by simp[isAgg,run_underlying hu]
   have hsz:(Go.sizeOf t).run X.P w=.ok n w:=by simp[Go.sizeOf,typeInfo,hi,hin]
   refine⟨.agg (us.extract off (off+n)),.agg (vs.extract off (off+n)),by simp[part,hag,hsz],by simp[part,hag,hsz],?_⟩;refine TJ (d:=d) (n:=n) (fun t n h k=>TK d (by omega) t n h k) hu h.1 h.2 hn (by omega) ?_ ?_ he
   ·intro j c hj;have hjn:j<n:=by rw[←hn];exact(aM.1 hj).1
    obtain⟨u,e1,e2⟩:=hc j c hj;refine⟨u,?_,e2⟩;rw[dO,EJ];have:=(cO.1 e1).1;rw[if_pos (by omega)];exact e1
   ·intro j c hj;have hjn:j<n:=by rw[←hl];exact(aM.1 hj).1
    obtain⟨u,e1,e2⟩:=hd j c hj;refine⟨u,?_,e2⟩;rw[dO,EJ];have:=(cO.1 e1).1;rw[if_pos (by omega)];exact e1
  ·cases h
def aCO{neg:Bool}{m:Nat}{t:TypeId}{x y:Operand}{cs ds:List PV}{us vs:Array Value}{b:Bool}(ht:vN X.P t m=true)
  (hl:cs.length=m)(hl':ds.length=m)(he:eJ false cs ds=some b)(r1:bX X g w cs us)(r2:bX X g w ds vs) :
  ((eqGuard (dK neg) t x y (.agg us) (.agg vs)).bind fun _=>binOp (dK neg) t (.agg us) (.agg vs)).run X.P w=.ok (.bool (if neg then !b else b)) w:=by
 unfold vN at ht;simp only[aJ,iG]at ht;obtain⟨⟨h1,h2⟩,h4⟩:=ht;split at h1
 ·rename_i fs hu;unfold mm at h2;rw[hu]at h2;simp only[aJ,iG]at h2
  have he':(Op.equal t (.agg us) (.agg vs)).run X.P w=.ok b w:=by
   refine TJ (g:=g) (D:=9999) (d:=5) (n:=m) (fun t n h k=>TK 5 (by omega) t n h k) hu h2.1 h2.2 hl (by omega) ?_ ?_ he
   ·intro j c hc;have:j<us.size:=by rw[←r1.1];exact(aM.1 hc).1
    exact⟨us[j],by simp[this],r1.2 j c _ hc (by simp[this])⟩
   ·intro j c hc;have:j<vs.size:=by rw[←r2.1];exact(aM.1 hc).1
    exact⟨vs[j],by simp[this],r2.2 j c _ hc (by simp[this])⟩
  have hg:(eqGuard (dK neg) t x y (.agg us) (.agg vs)).run X.P w=.ok () w:=by
   cases neg<;>simp[eqGuard,dK,h4]
  rw[Sem.run_bind',hg];cases neg
  ·simp[dK,binOp,he']
  ·simp[dK,binOp,he']
 ·cases h1
end
end Ps
set_option linter.defProp false
namespace Ps
open Go
def eV(X:Tie):Prop:=∀a b,X.ty a=X.ty b→a=b
section
variable {X : Tie} {g : Gh} {w : World} {n : Dn} {fr : Fr} {a : Act}
def cN(X:Tie)(g:Gh)(w:World)(a:Act)(op:Go.Op)(v:PV):Prop:=
 ∀(dst:Option Tmp) (ty:TypeId) (pos:String) (after:Array Edge) (guard:Option (Nat×Bool)),
  ∃u,(execOp a.eval ⟨dst,op,ty,pos,after,guard⟩).run X.P w=.ok (.value u) w∧VR X g w v u
def TL{P:Program}{t:TypeId}(h:pz P t=true):∃d,P.underlying t=some d∧∀ms,d≠.interface ms:=by
 unfold pz at h;split at h
 ·cases h
 ·rename_i d hd hu;exact⟨d,hu,fun ms e=>hd ms e⟩
 ·cases h
def tU{P:Program}{t:TypeId}{k:IntKind}(h:ic P t k=true):P.underlying t=some (.int k):=by
 unfold ic at h;split at h
 ·rename_i j hu;simp only[beq_iff_eq]at h;subst h;exact hu
 ·cases h
def nO{P:Program}{t:TypeId}(h:iP P t=true):P.underlying t=some .string:=by
 unfold iP at h;split at h
 ·assumption
 ·cases h
def Cz{P:Program}{t:TypeId}{sz:Nat}(h:ml P t sz=true):∃e i,P.underlying t=some (.slice e)∧P.info? e=some i∧i.size=sz:=by
 unfold ml at h;split at h
 ·rename_i e hu;split at h
  ·rename_i i hi;exact⟨e,i,hu,hi,by simpa using h⟩
  ·cases h
 ·cases h
def TM{P:Program}{t:TypeId}{len sz:Nat}(h:py P t len sz=true):∃e i,P.underlying t=some (.array len e)∧P.info? e=some i∧i.size=sz:=by
 unfold py at h;split at h
 ·rename_i m e hu;simp only[aJ,beq_iff_eq]at h;obtain⟨rfl,h⟩:=h;split at h
  ·rename_i i hi;exact⟨e,i,hu,hi,by simpa using h⟩
  ·cases h
 ·cases h
def nP{c:Call}{b:Builtin}(hc:c.callee=.builtin b)(dst:Option Tmp)(ty:TypeId)(pos:String)(after:Array Edge)(guard:Option (Nat×Bool)) :
  ∃consts,execOp a.eval ⟨dst,.call c,ty,pos,after,guard⟩=builtin b c.argTypes ty consts (c.args.map a.eval):=by
 obtain⟨callee,args,tys⟩:=c;simp only at hc;subst hc;exact⟨_,rfl⟩
def qf{c:Call}{x:Operand}(h:c.args.toList=[x]):c.args = #[x]:=by
 have:=congrArg List.toArray h;simpa using this
def tV{c:Call}{x y:Operand}(h:c.args.toList=[x,y]):c.args = #[x,y]:=by
 have:=congrArg List.toArray h;simpa using this
def qh{c:Call}{x:TypeId}(h:c.argTypes.toList=[x]):c.argTypes = #[x]:=by
 have:=congrArg List.toArray h;simpa using this
def wn{c:Call}{x y:TypeId}(h:c.argTypes.toList=[x,y]):c.argTypes = #[x,y]:=by
 have:=congrArg List.toArray h;simpa using this
def DA(hF:FR X n g w fr a){op:Go.Op}{y:aH}(hc:vO X y op=true):cN X g w a op (ev fr y):=by
 intro dst ty pos after guard;unfold vO at hc;split at hc
 ·exact⟨_,by simp only[execOp];rfl,bB hF hc⟩
 ·exact⟨_,by simp only[execOp];rfl,bB hF hc⟩
 ·rename_i c;split at hc
  ·rename_i h1 h2 h3;split at hc
   ·rename_i m e hu;simp only[beq_iff_eq]at hc;subst hc;obtain⟨consts,hb⟩:=nP (a:=a) h1 dst ty pos after guard;rw[hb,qf h2,qh h3];exact⟨_,by simp[builtin,Builtin.len_,run_underlying hu,goInt]<;>rfl,.int _ _⟩
   ·cases hc
  ·cases hc
 ·cases hc
def aCP(hF:FR X n g w fr a){c x y:aH}{c' x' y':Operand}(hc:aO X c' c=true)(hx:aO X x' x=true)(hy:aO X y' y=true){v:PV}
  (hv:aR fr (.pick c x y)=some v):cN X g w a (.pick c' x' y') v:=by
 intro dst ty pos after guard;have rc:=bB hF hc;simp only[aR]at hv;split at hv
 ·rename_i e;cases hv;rw[e]at rc;generalize hu:a.eval c'=u at rc;cases rc;exact⟨_,by simp[execOp,hu,asBool]<;>rfl,bB hF hx⟩
 ·rename_i e;cases hv;rw[e]at rc;generalize hu:a.eval c'=u at rc;cases rc;exact⟨_,by simp[execOp,hu,asBool]<;>rfl,bB hF hy⟩
 ·cases hv
def aCQ(hF:FR X n g w fr a){x:aH}{x':Operand}(hx:aO X x' x=true){v:PV}(hv:aR fr (.nilck x)=some v):cN X g w a (.nilCheck x') v:=by
 intro dst ty pos after guard;have r:=bB hF hx;simp only[aR]at hv;generalize hu:a.eval x'=u at r;generalize hp:ev fr x=p at r hv;have hr:=r;cases r<;>simp only at hv<;>try (cases hv;done)
 all_goals
  simp only[ap]at hv;subst hv;exact⟨_,by simp[execOp,hu]<;>rfl,hr⟩
def tW{o:BinOp}{t:TypeId}{x y:Operand}{yt:TypeId}{u:Value}(h:((eqGuard o t x y (a.eval x) (a.eval y)).bind fun _=>binOp o t (a.eval x) (a.eval y)).run X.P w=.ok u w)
  (dst:Option Tmp) (ty:TypeId) (pos:String) (after:Array Edge) (guard:Option (Nat×Bool)) :
  (execOp a.eval ⟨dst,.binOp o t x y yt,ty,pos,after,guard⟩).run X.P w=.ok (.value u) w:=by
 have h':(do eqGuard o t x y (a.eval x) (a.eval y);binOp o t (a.eval x) (a.eval y):Sem Value).run X.P w=.ok u w:=h;simp only[execOp,Sem.run_bind];simp only[Sem.run_bind]at h';rw[h'];rfl
def aCR(hF:FR X n g w fr a){o:BinOp}{x y:aH}{x' y':Operand}{t yt:TypeId}(hx:aO X x' x=true)(hy:aO X y' y=true){v:PV}
  (hv:aR fr (.arith o x y)=some v):cN X g w a (.binOp o t x' y' yt) v:=by
 intro dst ty pos after guard;obtain⟨u,h1,h2⟩:=aCC (t:=t) (x:=x') (y:=y') hv (bB hF hx) (bB hF hy);exact⟨u,tW h1 _ _ _ _ _,h2⟩
def aCS(hF:FR X n g w fr a){neg:Bool}{x y:aH}{x' y':Operand}{t yt:TypeId}(ht:oJ X.P t=true)(hx:aO X x' x=true)(hy:aO X y' y=true){v:PV}
  (hv:aR fr (.eqb neg x y)=some v):cN X g w a (.binOp (dK neg) t x' y' yt) v:=by
 intro dst ty pos after guard;have r1:=bB hF hx;have r2:=bB hF hy;simp only[aR]at hv;split at hv
 ·rename_i b c e1 e2;cases hv;rw[e1]at r1;rw[e2]at r2;refine⟨_,tW (u:=.bool (if neg then !(b==c)else b==c)) ?_ _ _ _ _ _,.bool _⟩;generalize hu1:a.eval x'=u1 at r1;generalize hu2:a.eval y'=u2 at r2;cases r1;cases r2;exact aCD ht
 ·cases hv
def aCT(hF:FR X n g w fr a){neg:Bool}{k:NK}{x:aH}{x' y':Operand}{t yt:TypeId}(ht:kF X.P t k y'=true)(hx:aO X x' x=true){v:PV}
  (hv:aR fr (.eqn neg k x)=some v):cN X g w a (.binOp (dK neg) t x' y' yt) v:=by
 intro dst ty pos after guard;simp only[aR]at hv;split at hv
 ·rename_i b e;cases hv;exact⟨_,tW (aCG ht e (bB hF hx)) _ _ _ _ _,.bool _⟩
 ·cases hv
def aCU(hF:FR X n g w fr a){neg isb:Bool}{m:Nat}{x y:aH}{x' y':Operand}{t yt:TypeId}(ht:vM X.P t isb m=true)(hx:aO X x' x=true)(hy:aO X y' y=true){v:PV}
  (hv:aR fr (.eqa neg isb m x y)=some v):cN X g w a (.binOp (dK neg) t x' y' yt) v:=by
 intro dst ty pos after guard;have r1:=bB hF hx;have r2:=bB hF hy;simp only[aR]at hv;split at hv
 ·rename_i cs ds e1 e2;rw[e1]at r1;rw[e2]at r2;split at hv
  ·rename_i hl;split at hv
   ·rename_i b he;cases hv;refine⟨_,tW (u:=.bool (if neg then !b else b)) ?_ _ _ _ _ _,.bool _⟩;generalize hu1:a.eval x'=u1 at r1;generalize hu2:a.eval y'=u2 at r2
    cases r1 with
    |agg _ us hl1 hv1=>
     cases r2 with
     |agg _ vs hl2 hv2=>exact aCN ht hl.1 hl.2 he ⟨hl1,hv1⟩ ⟨hl2,hv2⟩
   ·cases hv
  ·cases hv
 ·cases hv
def aCV(hF:FR X n g w fr a){neg:Bool}{m:Nat}{x y:aH}{x' y':Operand}{t yt:TypeId}(ht:vN X.P t m=true)(hx:aO X x' x=true)(hy:aO X y' y=true){v:PV}
  (hv:aR fr (.eqs neg m x y)=some v):cN X g w a (.binOp (dK neg) t x' y' yt) v:=by
 intro dst ty pos after guard;have r1:=bB hF hx;have r2:=bB hF hy;simp only[aR]at hv;split at hv
 ·rename_i cs ds e1 e2;rw[e1]at r1;rw[e2]at r2;split at hv
  ·rename_i hl;split at hv
   ·rename_i b he;cases hv;refine⟨_,tW (u:=.bool (if neg then !b else b)) ?_ _ _ _ _ _,.bool _⟩;generalize hu1:a.eval x'=u1 at r1;generalize hu2:a.eval y'=u2 at r2
    cases r1 with
    |agg _ us hl1 hv1=>
     cases r2 with
     |agg _ vs hl2 hv2=>exact aCO ht hl.1 hl.2 he ⟨hl1,hv1⟩ ⟨hl2,hv2⟩
   ·cases hv
  ·cases hv
 ·cases hv
def aCW(hF:FR X n g w fr a){o:UnOp}{x:aH}{x':Operand}{t:TypeId}(hx:aO X x' x=true){v:PV}(hv:aR fr (.un o x)=some v):cN X g w a (.unOp o t x') v:=by
 intro dst ty pos after guard;have r:=bB hF hx;simp only[aR]at hv;generalize hu:a.eval x'=u at r;generalize hp:ev fr x=p at r hv;unfold unOp at hv;split at hv
 ·cases hv;cases r;exact⟨_,by simp[execOp,hu,Op.unary]<;>rfl,.bool _⟩
 ·cases hv;cases r;exact⟨_,by simp[execOp,hu,Op.unary,Op.intArith]<;>rfl,.int _ _⟩
 ·cases hv;cases r;exact⟨_,by simp[execOp,hu,Op.unary,Op.intBits]<;>rfl,.int _ _⟩
 ·cases hv
def aCX(hF:FR X n g w fr a){k:IntKind}{x:aH}{x':Operand}{s d:TypeId}(hs:(X.P.underlying s).isSome=true)(hd:ic X.P d k=true)(hx:aO X x' x=true){v:PV}
  (hv:aR fr (.toInt k x)=some v):cN X g w a (.convert s d x') v:=by
 intro dst ty pos after guard;have r:=bB hF hx;simp only[aR]at hv;split at hv
 ·rename_i j m e;cases hv;rw[e]at r;generalize hu:a.eval x'=u at r;cases r;obtain⟨ds,hds⟩:=rS.1 hs;exact⟨_,by simp[execOp,hu,convert,run_underlying hds,run_underlying (tU hd),Conv.intToInt]<;>rfl,.int _ _⟩
 ·cases hv
def aCY(hF:FR X n g w fr a){x:aH}{x':Operand}{s d:TypeId}(hs:(X.P.underlying s).isSome=true)(hd:iP X.P d=true)(hx:aO X x' x=true){v:PV}
  (hv:aR fr (.strId x)=some v):cN X g w a (.convert s d x') v:=by
 intro dst ty pos after guard;have r:=bB hF hx;simp only[aR]at hv;split at hv
 ·rename_i j e;cases hv;rw[e]at r;generalize hu:a.eval x'=u at r;cases r;obtain⟨ds,hds⟩:=rS.1 hs;exact⟨_,by simp[execOp,hu,convert,run_underlying hds,run_underlying (nO hd)]<;>rfl,.str _⟩
 ·cases hv
def aCZ(hF:FR X n g w fr a){ag:Bool}{off m f:Nat}{x:aH}{x':Operand}{t:TypeId}
  (ht:(match X.P.underlying t with|some (.struct fs)=>(match fs[f]? with|some g=>g.offset==off&&jE X.P g.type ag m|none=>false)|_=>false)=true)
  (hx:aO X x' x=true){v:PV}(hv:aR fr (.field ag off m x)=some v):cN X g w a (.field t x' f) v:=by
 intro dst ty pos after guard;have r:=bB hF hx;simp only[aR]at hv;split at ht
 ·rename_i fs hu;split at ht
  ·rename_i fd hfd;simp only[aJ,beq_iff_eq]at ht;obtain⟨rfl,ht⟩:=ht;split at hv
   ·rename_i cs e;rw[e]at r;generalize hux:a.eval x'=u at r
    cases r with
    |agg _ us hl hv1=>
     obtain⟨u,h1,h2⟩:=Sw ht hv hl hv1;exact⟨u,by simp[execOp,hux,Instr.field,run_underlying hu,hfd,asAgg,h1],h2⟩
   ·cases hv
  ·cases ht
 ·cases ht
def aC0(hF:FR X n g w fr a){t:Nat}{x:aH}{x':Operand}(ht:pz X.P (X.ty t)=true)(hx:aO X x' x=true) :
  cN X g w a (.makeInterface (X.ty t) x') (.iface t (ev fr x)):=by
 intro dst ty pos after guard;obtain⟨d,hu,hd⟩:=TL ht;refine⟨.iface (X.ty t) (a.eval x'),?_,.iface _ _ _ (bB hF hx)⟩;simp only[execOp,Instr.makeInterface,Sem.run_bind,run_underlying hu,Result.andThen_ok];cases d<;>first|rfl|exact(hd _ rfl).elim
def aC1(hF:FR X n g w fr a){f:Nat}{caps:List aH}{first cs:Array Operand}(h0:first.size=0)(hx:fq X cs.toList caps=true) :
  cN X g w a (.makeFunc (.func (X.fnOf f)) first cs) (.fn f (caps.map (ev fr))):=by
 intro dst ty pos after guard;have e:first = #[]:=uH h0
 subst e;obtain⟨h1,h2⟩:=wh hF hx;refine⟨.func (.func (X.fnOf f)) #[] (cs.map a.eval),by simp[execOp,Instr.makeFunc],.fn _ _ _ (by simpa using h1) (fun j c u e1 e2=>h2 j c u e1 (by simpa using e2))⟩
def aC2(hF:FR X n g w fr a){f:Nat}{first:List aH}{fs cs:Array Operand}(h0:cs.size=0)(hx:fq X fs.toList first=true) :
  cN X g w a (.makeFunc (.func (X.fnOf f)) fs cs) (.bfn f (first.map (ev fr))):=by
 intro dst ty pos after guard;have e:cs = #[]:=uH h0;subst e;obtain⟨h1,h2⟩:=wh hF hx;refine⟨.func (.func (X.fnOf f)) (fs.map a.eval) #[],by simp[execOp,Instr.makeFunc],.bfn _ _ _ (by simpa using h1) (fun j c u e1 e2=>h2 j c u e1 (by simpa using e2))⟩
def aC3(hF:FR X n g w fr a){i:Nat}{x:aH}{x':Operand}(hx:aO X x' x=true){v:PV}(hv:aR fr (.extract i x)=some v):cN X g w a (.extract x' i) v:=by
 intro dst ty pos after guard;have r:=bB hF hx;simp only[aR]at hv;split at hv
 ·rename_i vs e;rw[e]at r;generalize hux:a.eval x'=u at r
  cases r with
  |tup _ us hl hv1=>
   have hi:i<us.size:=by rw[←hl];exact(aM.1 hv).1
   exact⟨us[i],by simp[execOp,hux,Instr.extract,hi],hv1 i v _ hv (by simp[hi])⟩
 ·cases hv
def DB{P:Program}{t:TypeId}{z:PV}(h:ku P t z=true):∃u,(zeroValue t).run P w=.ok u w∧sH u z=true:=by
 unfold ku at h;split at h
 ·rename_i i hi;split at h
  ·rename_i u hu;exact⟨u,by simp[zeroValue,typeInfo,hi,hu],h⟩
  ·cases h
 ·cases h
def aC4(hty:eV X)(hF:FR X n g w fr a){t:Nat}{ok:Bool}{z:PV}{x:aH}{x':Operand}{xt:TypeId}(ht:pz X.P (X.ty t)=true)(hz:ku X.P (X.ty t) z=true)
  (hx:aO X x' x=true){v:PV}(hv:aR fr (.assert t ok z x)=some v):cN X g w a (.typeAssert x' xt (X.ty t) ok) v:=by
 intro dst ty pos after guard;have r:=bB hF hx;obtain⟨d,hu,hd⟩:=TL ht;obtain⟨zu,hz1,hz2⟩:=DB (w:=w) hz
 have fail:∀u:Value,(u=.nilIface∨∃t' v',u=.iface t' v'∧t'≠X.ty t)→ok=true →
   (Instr.typeAssert u xt (X.ty t) ok).run X.P w=.ok (.tuple #[zu,.bool false]) w:=by
  intro u h1 h2;subst h2;rcases h1 with rfl|⟨t',v',rfl,hne⟩
  ·simp only[Instr.typeAssert,Sem.run_bind,run_underlying hu,Result.andThen_ok];cases d<;>first|(exact(hd _ rfl).elim)|simp[hz1]
  ·simp only[Instr.typeAssert,Sem.run_bind,run_underlying hu,Result.andThen_ok];cases d<;>first|(exact(hd _ rfl).elim)|simp[hz1,hne]
 have two:∀{c d:PV} {u1 u2:Value},VR X g w c u1→VR X g w d u2→VR X g w (.tup [c,d]) (.tuple #[u1,u2]):=by
  intro c d u1 u2 r1 r2;refine .tup _ _ rfl (fun j x u e1 e2=>?_)
  match j with
  |0=>simp at e1 e2;subst e1;subst e2;exact r1
  |1=>simp at e1 e2;subst e1;subst e2;exact r2
  |j+2=>simp at e1
 simp only[aR]at hv;split at hv
 ·rename_i e;rw[e]at r;generalize hux:a.eval x'=u at r;cases r;split at hv
  ·rename_i hok;cases hv;exact⟨_,by simp only[execOp,Sem.run_bind,hux,fail .nilIface (.inl rfl) hok];rfl,two (ol hz2) (.bool _)⟩
  ·cases hv
 ·rename_i t' v0 e;rw[e]at r;generalize hux:a.eval x'=u at r
  cases r with
  |iface _ _ u0 hv0=>
   split at hv
   ·rename_i heq;subst heq;cases hv;cases ok
    ·refine⟨u0,?_,hv0⟩;simp only[execOp,Sem.run_bind,hux,Instr.typeAssert,run_underlying hu,Result.andThen_ok];cases d<;>first|(exact(hd _ rfl).elim)|simp
    ·refine⟨.tuple #[u0,.bool true],?_,two hv0 (.bool _)⟩;simp only[execOp,Sem.run_bind,hux,Instr.typeAssert,run_underlying hu,Result.andThen_ok];cases d<;>first|(exact(hd _ rfl).elim)|simp
   ·rename_i hne;split at hv
    ·rename_i hok;cases hv;exact⟨_,by simp only[execOp,Sem.run_bind,hux,fail _ (.inr ⟨X.ty t',u0,rfl,fun h=>hne (hty _ _ h)⟩) hok];rfl,two (ol hz2) (.bool _)⟩
    ·cases hv
 ·cases hv
def aC5(hF:FR X n g w fr a){l:List Nat}{x:aH}{x':Operand}{xt u:TypeId}{want:Array (String×TypeId)}(hu:X.P.underlying u=some (.interface want))
  (hl:(l.all fun t=>match X.P.info? (X.ty t)with|some i=>(Instr.missingMethod want i.methods).isNone|none=>false)=true)
  (hx:aO X x' x=true){v:PV}(hv:aR fr (.asrI l x)=some v):cN X g w a (.typeAssert x' xt u true) v:=by
 intro dst ty pos after guard;have r:=bB hF hx;simp only[aR]at hv;split at hv
 ·rename_i t v0 e;split at hv
  ·rename_i hmem;cases hv;rw[e]at r;generalize hux:a.eval x'=q at r;have hr:=r
   cases r with
   |iface _ _ u0 hv0=>
    have h1:=List.all_eq_true.1 hl t (by simpa using hmem)
    cases hi:X.P.info? (X.ty t)with
    |none=>rw[hi]at h1;cases h1
    |some i=>
     rw[hi]at h1;have h2:Instr.missingMethod want i.methods=none:=by simpa using h1
     refine⟨.tuple #[.iface (X.ty t) u0,.bool true],?_,.tup _ _ rfl (fun j c y e1 e2=>?_)⟩
     ·simp[execOp,hux,Instr.typeAssert,run_underlying hu,typeInfo,hi,h2]
     ·match j with
      |0=>simp at e1 e2;subst e1;subst e2;exact hr
      |1=>simp at e1 e2;subst e1;subst e2;exact .bool _
      |j+2=>simp at e1
  ·cases hv
 ·cases hv
end
end Ps
