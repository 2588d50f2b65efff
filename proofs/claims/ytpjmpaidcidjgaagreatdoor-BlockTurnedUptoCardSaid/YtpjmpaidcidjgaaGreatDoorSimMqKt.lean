/- Maps whose keys are pointers. -/
import Derived.Test.YtpjmpaidcidjgaaGreatDoorAbbKt
import Derived.Test.YtpjmpaidcidjgaaGreatDoorSimMpKt
import Derived.LaidEql
set_option linter.defProp false
namespace Ps
set_option linter.unusedVariables false
set_option linter.unusedSimpArgs false
open Go
section
variable {X : Tie} {g : Gh} {w : World} {n : Dn} {fr : Fr} {a : Act} {S : St}
inductive jy(P:Program)(kt:TypeId):Bool→Prop where
 |ptr (d:TypeId) (i:TypeInfo) (hk:P.underlying kt=some (.pointer d)) (hi:P.info? d=some i) (hsz:i.size≠0):jy P kt false
 |two (e:TypeId) (i:TypeInfo) (hk:P.underlying kt=some (.array 2 e)) (he:P.underlying e=some .string) (hi:P.info? e=some i) (hsz:i.size=1):jy P kt true
def sk{P:Program}{ar:Bool}{t:TypeId}(h:kV P ar t=true):∃k e,P.underlying t=some (.map k e)∧jy P k ar:=by
 unfold kV at h;split at h
 ·rename_i k e hu;split at h
  ·rename_i d hk;split at h
   ·rename_i i hi;simp only[aI,fV,bne_iff_ne,ne_eq]at h;obtain⟨rfl,h⟩:=h;exact⟨k,e,hu,.ptr d i hk hi h⟩
   ·cases h
  ·rename_i m e' hk;split at h
   ·rename_i i hi he;simp only[aI,beq_iff_eq]at h;obtain⟨⟨rfl,rfl⟩,h⟩:=h;exact⟨k,e,hu,.two e' i hk he hi h⟩
   ·cases h
  ·cases h
 ·cases h
def ZA{P:Program}{e:TypeId}(he:P.underlying e=some .string)(w:World):(Go.isAgg e).run P w=.ok false w:=by
 simp[Go.isAgg,run_underlying he]
def yV{P:Program}{e:TypeId}{i:TypeInfo}(hi:P.info? e=some i)(w:World):(Go.sizeOf e).run P w=.ok i.size w:=by
 simp[Go.sizeOf,typeInfo,hi]
def yW{P:Program}{e:TypeId}(he:P.underlying e=some .string)(a b:Value)(w:World) :
  (Go.part e #[a,b] 0).run P w=.ok a w∧(Go.part e #[a,b] 1).run P w=.ok b w:=by
 constructor<;>simp[Go.part,ZA he]
def Oo{k:PV}(lk:cK false S k=true):False:=by
 unfold cK at lk;split at lk<;>cases lk
def pz{k:PV}(lk:cK true S k=true):∃s t,k=.agg [.str s,.str t]:=by
 unfold cK at lk;split at lk
 ·exact⟨_,_,rfl⟩
 ·cases lk
def sm{s t:List UInt8}{u:Value}(rk:VR X g w (.agg [.str s,.str t]) u):u=.agg #[.string ⟨s.toArray⟩,.string ⟨t.toArray⟩]:=by
 cases rk with
 |agg cs us hl hv=>
  obtain⟨l⟩:=us
  match l,hl with
  | [a,b],_=>
   have h0:=hv 0 _ _ rfl rfl;have h1:=hv 1 _ _ rfl rfl;cases h0;cases h1;rfl
def ZB(hS:SR X g S w){kt d:TypeId}{i:TypeInfo}(hk:X.P.underlying kt=some (.pointer d))(hi:X.P.info? d=some i)(hsz:i.size≠0){k q:PV}{u x:Value}(rk:VR X g w k u)(lk:cK false S k=true)(rq:VR X g w q x)(lq:cK false S q=true) :
  (Op.equal kt u x).run X.P w=.ok (PV.beq q k) w∧(PV.beq q k=true↔x=u):=by
 exact(Oo lk).elim
def ZC{kt e:TypeId}{i:TypeInfo}(hk:X.P.underlying kt=some (.array 2 e))(he:X.P.underlying e=some .string)(hi:X.P.info? e=some i)(hsz:i.size=1){k q:PV}{u x:Value}(rk:VR X g w k u)(lk:cK true S k=true)(rq:VR X g w q x)(lq:cK true S q=true) :
  (Op.equal kt u x).run X.P w=.ok (PV.beq q k) w∧(PV.beq q k=true↔x=u):=by
 obtain⟨s1,t1,rfl⟩:=pz lk;obtain⟨s2,t2,rfl⟩:=pz lq;cases sm rk;cases sm rq
 have hst:∀(d:Nat) (s t:List UInt8),(Op.equalIn (d+1) e (.string ⟨s.toArray⟩) (.string ⟨t.toArray⟩)).run X.P w=.ok (s==t) w:=fun d s t=>by
  simp[Op.equalIn,run_underlying he,bytes_beq]
 have h:∀d:Nat,(Op.equalIn (d+2) kt (.agg #[.string ⟨s1.toArray⟩,.string ⟨t1.toArray⟩]) (.agg #[.string ⟨s2.toArray⟩,.string ⟨t2.toArray⟩])).run X.P w=.ok (s1==s2&&t1==t2) w:=fun d=>by
  have e1:=(yW he (.string ⟨s1.toArray⟩) (.string ⟨t1.toArray⟩) w);have e2:=(yW he (.string ⟨s2.toArray⟩) (.string ⟨t2.toArray⟩) w);have hr:[0:2].toList=[0,1]:=rfl;rw[Op.equalIn];simp only[Sem.run_bind,run_underlying hk,Result.andThen_ok,yV hi,hsz,Std.Legacy.Range.forIn_eq_forIn_range',Std.Legacy.Range.size,tx,tn,tp,lS,List.range'_zero,tY,Nat.zero_mul,Nat.one_mul,mt,e1.1,e1.2,e2.1,e2.2,hst];cases hs:s1==s2<;>cases ht:t1==t2<;>simp[e1.1,e1.2,e2.1,e2.2,hst,hs,ht]
 refine⟨?_,?_⟩
 ·have:=h 9998;rw[Op.equal,show Op.maxDepth=9998+2 from rfl,this]
  have hb:PV.beq (.agg [.str s2,.str t2]) (.agg [.str s1,.str t1])=(s1==s2&&t1==t2):=by
   rw[qa];simp[PV.beq,PV.beqL];exact⟨fun h=>⟨h.1.symm,h.2.symm⟩,fun h=>⟨h.1.symm,h.2.symm⟩⟩
  rw[hb]
 ·simp[PV.beq,PV.beqL]
def Oq(hS:SR X g S w){ar:Bool}{kt:TypeId}(hq:jy X.P kt ar){k q:PV}{u x:Value}(rk:VR X g w k u)(lk:cK ar S k=true)(rq:VR X g w q x)(lq:cK ar S q=true) :
  (Op.equal kt u x).run X.P w=.ok (PV.beq q k) w∧(PV.beq q k=true↔x=u):=by
 cases hq with
 |ptr d i hk hi hsz=>exact ZB hS hk hi hsz rk lk rq lq
 |two e i hk he hi hsz=>exact ZC hk he hi hsz rk lk rq lq
def ZD{ar:Bool}{k:PV}(lk:cK ar S k=true):ra k=true:=by
 unfold cK at lk;split at lk
 ·rfl
 ·cases lk
def Ot(hS:SR X g S w){ar:Bool}{kt:TypeId}(hq:jy X.P kt ar){k:PV}{u:Value}(rk:VR X g w k u)(lk:cK ar S k=true){cs:List PV}{es:List MapEntry}(h:MR X g w cs es):du ar S cs=true→∀j:Nat,
  (cL k cs=none∧(Instr.findAsking kt u es j).run X.P w=.ok none w∧(∀e∈es,e.key≠u)) ∨
  (∃v m e,cL k cs=some v∧(Instr.findAsking kt u es j).run X.P w=.ok (some (j+m,e.val)) w∧es[m]?=some e∧VR X g w v e.val∧e.key=u):=by
 induction h with
 |nil=>intro _ j;exact .inl ⟨rfl,by simp[Instr.findAsking],by simp⟩
 |mark=>intro _ j;exact .inl ⟨rfl,by simp[Instr.findAsking],by simp⟩
 |cons q v cs e es hqv _ hv _ ih=>
  intro hl j;simp only[du,aI]at hl;obtain⟨h1,h2⟩:=Oq hS hq rk lk hqv hl.1
  cases hb:PV.beq q k with
  |true=>
   rw[hb]at h1 h2
   exact .inr ⟨v,0,e,by simp[cL,hb],by simp[Instr.findAsking,h1],rfl,hv,h2.1 rfl⟩
  |false=>
   rw[hb]at h1 h2;have hne:e.key≠u:=fun z=>by have:=h2.2 z;cases this
   rcases ih hl.2 (j+1)with⟨r1,r2,r3⟩|⟨v',m,e',r1,r2,r3,r4,r5⟩
   ·refine .inl ⟨by simp[cL,hb,r1],by simp[Instr.findAsking,h1,r2],fun x hx=>?_⟩;rcases cY.1 hx with rfl|hx
    ·exact hne
    ·exact r3 x hx
   ·exact .inr ⟨v',m+1,e',by simp[cL,hb,r1],by simp[Instr.findAsking,h1,r2];omega,by simpa using r3,r4,r5⟩
def np{ar:Bool}{kt:TypeId}(hq:jy X.P kt ar){k:PV}{u:Value}(rk:VR X g w k u)(lk:cK ar S k=true){es:List MapEntry}{r:Option (Nat×Value)}(h:(Instr.findAsking kt u es 0).run X.P w=.ok r w):(Instr.findKey kt u es).run X.P w=.ok r w:=by
 have hd:∃d,X.P.underlying kt=some d∧∀v x,Instr.sameNow d v x=none:=by
  cases hq with
  |ptr d i hk hi hsz=>exact⟨_,hk,fun v x=>by simp[Instr.sameNow]⟩
  |two e i hk he hi hsz=>exact⟨_,hk,fun v x=>by simp[Instr.sameNow]⟩
 obtain⟨d,hk,hn⟩:=hd
 cases es with
 |nil=>
  have:r=none:=by simpa[Instr.findAsking]using h.symm
  subst this
  simp[Instr.findKey,run_underlying hk,Instr.findNow]
 |cons e es=>simp[Instr.findKey,run_underlying hk,Instr.findNow,hn,h]
def nq{ar:Bool}{t:TypeId}(hq:jy X.P t ar){k:PV}{v:Value}(rk:VR X g w k v)(lk:cK ar S k=true)(em:Bool)(w':World):(Instr.checkKey em 10000 t v).run X.P w'=.ok () w':=by
 cases hq with
 |ptr d i hk hi hsz=>
  have:∀n,(Instr.checkKey em (n+1) t v).run X.P w'=.ok () w':=fun n=>by
   unfold Instr.checkKey;simp only[Sem.run_bind,run_underlying hk,Result.andThen];cases v<;>simp
  exact this 9999
 |two e i hk he hi hsz=>
  obtain⟨s,q,rfl⟩:=pz lk;cases sm rk;have e1:=(yW he (.string ⟨s.toArray⟩) (.string ⟨q.toArray⟩) w')
  have h1:∀(n:Nat) (z:List UInt8),(Instr.checkKey em (n+1) e (.string ⟨z.toArray⟩)).run X.P w'=.ok () w':=fun n z=>by
   unfold Instr.checkKey;simp[run_underlying he]
  have:∀n,(Instr.checkKey em (n+2) t (.agg #[.string ⟨s.toArray⟩,.string ⟨q.toArray⟩])).run X.P w'=.ok () w':=fun n=>by
   rw[Instr.checkKey];simp only[Sem.run_bind,run_underlying hk,Result.andThen_ok,yV hi,hsz,Std.Legacy.Range.forIn_eq_forIn_range',Std.Legacy.Range.size,tx,tn,tp,lS,List.range'_zero,tY,Nat.zero_mul,Nat.one_mul,mt,e1.1,e1.2,h1];simp[e1.1,e1.2,h1,yV hi,hsz]
  exact this 9998
def ZE(hS:SR X g S w)(hF:FR X n g w fr a){ar ok:Bool}{z:PV}{x k:aG}{x' k':Operand}{t:TypeId}(ht:kV X.P ar t=true)(hz:kW X.P t z=true)(hx:aK X x' x=true)(hk:aK X k' k=true)
  {id:Nat}{cs:List PV}(he:ev fr x=.map id)(hcs:S.objs[id]?=some cs)(lk:cK ar S (ev fr k)=true)(ll:du ar S cs=true):bk X g w a (.lookup t x' k' ok) (gz ok z (cL (ev fr k) cs)):=by
 intro dst ty pos after guard;obtain⟨kt,et,hu,hq⟩:=sk ht;obtain⟨zu,hz1,hz2⟩:=yT hu hz;have rz:VR X g w z zu:=mJ hz2;have rk:=af hF hk;have rx:=af hF hx;rw[he]at rx;generalize hxu:a.eval x'=u at rx;generalize hku:a.eval k'=uk at rk
 cases rx with
 |map _ b hb=>
  obtain⟨cs',es,clock,h1,h2,h3,h4⟩:=hS.maps.ent id b hb;rw[hcs]at h1;cases h1;rcases Ot hS hq rk lk h4 ll 0 with⟨r1,r2,_⟩|⟨v',j,e',r1,r2,_,r4,_⟩
  ·rw[r1];refine⟨_,?_,py (r:=none) (v:=z) (u:=zu) rz⟩;simp[execOp,hxu,hku,Instr.lookup,run_underlying hu,MapKept.run_getObj_map h2,nq hq rk lk,np hq rk lk r2,hz1]
   try (cases ok<;>rfl)
  ·rw[r1];refine⟨_,?_,py (r:=some v') (v:=v') (u:=e'.val) r4⟩;simp[execOp,hxu,hku,Instr.lookup,run_underlying hu,MapKept.run_getObj_map h2,nq hq rk lk,np hq rk lk r2]
   try (cases ok<;>rfl)
def sn(hS:SR X g S w){ar:Bool}{kt:TypeId}(hq:jy X.P kt ar){k v:PV}{u x:Value}(rk:VR X g w k u)(lk:cK ar S k=true)(rv:VR X g w v x){cs:List PV}{es:List MapEntry}(h:MR X g w cs es):du ar S cs=true→cs.length%2=0→∀j:Nat,
  ((Instr.findAsking kt u es j).run X.P w=.ok none w∧(∀e∈es,e.key≠u)∧∀born,MR X g w (ci k v cs) (es++[{key:=u,val:=x,born}])) ∨
  (∃m e,(Instr.findAsking kt u es j).run X.P w=.ok (some (j+m,e.val)) w∧es[m]?=some e∧e.key=u∧MR X g w (ci k v cs) (es.set m {e with key:=u,val:=x})):=by
 have kk:ra k=true:=ZD lk
 induction h with
 |mark=>intro _ h;simp at h
 |nil=>intro _ _ j;exact .inl ⟨by simp[Instr.findAsking],by simp,fun born=>.cons k v [] _ [] rk kk rv .nil⟩
 |cons q z cs e es hqv hqq hz hcs ih=>
  intro hl hev j;have hev:cs.length%2=0:=by simp only[bE]at hev;omega
  simp only[du,aI]at hl;obtain⟨h1,h2⟩:=Oq hS hq rk lk hqv hl.1
  cases hb:PV.beq q k with
  |true=>
   rw[hb]at h1 h2;refine .inr ⟨0,e,by simp[Instr.findAsking,h1],rfl,h2.1 rfl,?_⟩;simp only[ci,hb,if_true]
   exact .cons k v cs _ es rk kk rv hcs
  |false=>
   rw[hb]at h1 h2;have hne:e.key≠u:=fun z=>by have:=h2.2 z;cases this
   have hp:ci k v (q::z::cs)=q::z::ci k v cs:=by simp[ci,hb]
   rw[hp];rcases ih hl.2 hev (j+1)with⟨r2,r3,r4⟩|⟨m,e',r2,r3,r4,r5⟩
   ·refine .inl ⟨by simp[Instr.findAsking,h1,r2],fun x hx=>?_,fun born=>.cons q z _ e _ hqv hqq hz (r4 born)⟩;rcases cY.1 hx with rfl|hx
    ·exact hne
    ·exact r3 x hx
   ·exact .inr ⟨m+1,e',by simp[Instr.findAsking,h1,r2];omega,by simpa using r3,r4,.cons q z _ e _ hqv hqq hz r5⟩
def Ou{ar:Bool}{k:PV}{u:Value}(rk:VR X g w k u)(lk:cK ar S k=true)(w':World):(Instr.keyThatStays u u).run X.P w'=.ok u w':=by
 cases ar with
 |false=>
  exact(Oo lk).elim
 |true=>
  obtain⟨s,q,rfl⟩:=pz lk;cases sm rk;simp[Instr.keyThatStays,Instr.sameBits,bytes_beq]
def ZF(hS:SR X g S w)(hF:FR X n g w fr a){ar:Bool}{x k v:aG}{x' k' v':Operand}{t:TypeId}{id:Nat}{cs:List PV}(ht:kV X.P ar t=true)(hx:aK X x' x=true)(hk:aK X k' k=true)(hv:aK X v' v=true)
  (he:ev fr x=.map id)(hcs:S.objs[id]?=some cs)(lk:cK ar S (ev fr k)=true)(ll:du ar S cs=true)(hev:cs.length%2=0) :
  dV X g w a (.mapUpdate t x' k' v') {S with objs:=S.objs.set id (ci (ev fr k) (ev fr v) cs)} .und:=by
 intro dst ty pos after guard next Q hn
 obtain⟨kt,et,hu,hq⟩:=sk ht;have rk:=af hF hk;have rx:=af hF hx;have rv:=af hF hv;rw[he]at rx;generalize hxu:a.eval x'=u at rx;generalize hku:a.eval k'=uk at rk;generalize hvu:a.eval v'=uv at rv
 cases rx with
 |map _ b hb=>
  obtain⟨cs',es,clock,h1,h2,h3,h4⟩:=hS.maps.ent id b hb;rw[hcs]at h1;cases h1;have hlt:=(aL.1 hcs).1;rcases sn hS hq rk lk rv h4 ll hev 0 with⟨r2,r3,r4⟩|⟨j,e,r2,r3,r4,r5⟩
  ·have hst:=MapKept.stamped_push h3 (key:=uk) (val:=uv) r3;obtain⟨hle,hS'⟩:=mX hS hb h2 hst hlt (ds:=ci (ev fr k) (ev fr v) cs) (by simpa using r4 clock) (mV hS hb hcs hev);unfold Oper.wp
   have er:(execOp a.eval ⟨dst,.mapUpdate t x' k' v',ty,pos,after,guard⟩).run X.P w=.ok .skip {w with heap:=w.heap.setIfInBounds b (.map (es.push {key:=uk,val:=uv,born:=clock}) (clock+1))}:=by
    simp[execOp,hxu,hku,hvu,Instr.mapUpdate,run_underlying hu,MapKept.run_getObj_map h2,nq hq rk lk,np hq rk lk r2,MapKept.run_setObj_map _ h2]
   rw[er];exact hn undef _ ⟨g,hle,hS',.und _⟩
  ·rw[cd]at r2;have hje:es[j]?=some e:=by simpa using r3
   have hst:=MapKept.stamped_modify h3 j (fun e=>{e with key:=uk,val:=uv}) (fun _ _=>rfl) (fun e' _ h=>by rw[hje]at h;cases h;exact r4.symm)
   have hset:(es.modify j (fun e=>{e with key:=uk,val:=uv})).toList=es.toList.set j {e with key:=uk,val:=uv}:=by
    apply lP;intro i;have hjl:j<es.toList.length:=(aL.1 r3).1;simp only[jS,lO];by_cases hij:j=i
    ·subst hij;rw[if_pos rfl,hje,dd hjl];rfl
    ·rw[if_neg hij,bq hij];simp
   obtain⟨hle,hS'⟩:=mX hS hb h2 hst hlt (ds:=ci (ev fr k) (ev fr v) cs) (by rw[hset];exact r5) (mV hS hb hcs hev);unfold Oper.wp;have hstay:=fun w'=>Ou (X:=X) (S:=S) rk lk w'
   have er:(execOp a.eval ⟨dst,.mapUpdate t x' k' v',ty,pos,after,guard⟩).run X.P w=.ok .skip {w with heap:=w.heap.setIfInBounds b (.map (es.modify j (fun e=>{e with key:=uk,val:=uv})) clock)}:=by
    simp[execOp,hxu,hku,hvu,Instr.mapUpdate,run_underlying hu,MapKept.run_getObj_map h2,nq hq rk lk,np hq rk lk r2,MapKept.run_setObj_map _ h2,hje,r4,hstay]
   rw[er];exact hn undef _ ⟨g,hle,hS',.und _⟩
end
end Ps
