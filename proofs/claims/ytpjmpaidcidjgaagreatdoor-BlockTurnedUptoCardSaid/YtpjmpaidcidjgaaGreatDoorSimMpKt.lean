/- Maps. -/
import Derived.Test.YtpjmpaidcidjgaaGreatDoorAbbKt
import Derived.Test.YtpjmpaidcidjgaaGreatDoorSimJKt
import Derived.MapKept
set_option linter.defProp false
namespace Ps
set_option linter.unusedVariables false
set_option linter.unusedSimpArgs false
open Go
section
variable {X : Tie} {g : Gh} {w : World} {n : Dn} {fr : Fr} {a : Act} {S : St}
def Oi{ks:Bool}{k:PV}(h:eB ks k=true):ra k=true:=by
 cases ks<;>cases k<;>first|rfl|(simp[eB]at h)
inductive jO:TypeDesc→Bool→Prop where
 |str:jO .string true
 |int (j:IntKind):jO (.int j) false
def yS{P:Program}{t:TypeId}{ks:Bool}(h:jk P t ks=true):∃k e d,P.underlying t=some (.map k e)∧P.underlying k=some d∧jO d ks:=by
 unfold jk at h;split at h
 ·rename_i k e hu;split at h
  ·rename_i hk;subst h;exact⟨k,e,_,hu,hk,.str⟩
  ·rename_i j hk;have:ks=false:=by simpa using h
   subst this;exact⟨k,e,_,hu,hk,.int j⟩
  ·cases h
 ·cases h
def bytes_beq(s t:List UInt8):((ByteArray.mk s.toArray)==(ByteArray.mk t.toArray))=(s==t):=by
 rw[qa,MapKept.bytes_beq];simp
def nm{d:TypeDesc}{ks:Bool}(hd:jO d ks){k q:PV}{u x:Value}(rk:VR X g w k u)(hk:eB ks k=true)(rq:VR X g w q x){b:Bool}(h:kZ k q=some b) :
  Instr.sameNow d u x=some b∧(b=true↔x=u):=by
 cases hd with
 |str=>
  cases k<;>simp only[eB]at hk<;>try (cases hk;done)
  cases q<;>simp only[kZ]at h<;>try (cases h;done)
  cases rk;cases rq;cases h;refine⟨by simp only[Instr.sameNow,bytes_beq],?_⟩;simp only[beq_iff_eq];constructor
  ·intro e;rw[e]
  ·intro e;injection e with e;injection e with e;simpa using e.symm
 |int j=>
  cases k<;>simp only[eB]at hk<;>try (cases hk;done)
  cases q<;>simp only[kZ]at h<;>try (cases h;done)
  cases rk;cases rq;split at h
  ·rename_i e;subst e;cases h;refine⟨by simp only[Instr.sameNow,if_true],?_⟩;simp only[beq_iff_eq];constructor
   ·intro e;rw[e]
   ·intro e;injection e with _ e;exact e.symm
  ·cases h
def Yn{d:TypeDesc}{ks:Bool}(hd:jO d ks){k:PV}{u:Value}(rk:VR X g w k u)(hk:eB ks k=true){cs:List PV}{es:List MapEntry}(h:MR X g w cs es):∀(i:Nat) (r:Option PV),iO k cs=some r →
  (r=none∧Instr.findNow d u es i=some none∧∀e∈es,e.key≠u)∨(∃v j e,r=some v∧Instr.findNow d u es i=some (some (i+j,e.val))∧es[j]?=some e∧VR X g w v e.val∧e.key=u):=by
 induction h with
 |nil=>
  intro i r hr;simp only[iO,ae]at hr
  exact .inl ⟨hr.symm,rfl,by simp⟩
 |mark=>
  intro i r hr;simp only[iO,ae]at hr
  exact .inl ⟨hr.symm,rfl,by simp⟩
 |cons q v cs e es hq _ hv _ ih=>
  intro i r hr;simp only[iO]at hr;split at hr
  ·rename_i hb;cases hr;obtain⟨h1,h2⟩:=nm hd rk hk hq hb;exact .inr ⟨v,0,e,rfl,by simp[Instr.findNow,h1],rfl,hv,h2.1 rfl⟩
  ·rename_i hb;obtain⟨h1,h2⟩:=nm hd rk hk hq hb;have hne:e.key≠u:=fun z=>by have:=h2.2 z;cases this
   rcases ih (i+1) r hr with⟨r1,r2,r3⟩|⟨v',j,e',r1,r2,r3,r4,r5⟩
   ·refine .inl ⟨r1,by simp[Instr.findNow,h1,r2],fun x hx=>?_⟩;rcases cY.1 hx with rfl|hx
    ·exact hne
    ·exact r3 x hx
   ·exact .inr ⟨v',j+1,e',r1,by simp[Instr.findNow,h1,r2];omega,by simpa using r3,r4,r5⟩
  ·cases hr
def Yo{P:Program}{t:TypeId}{d:TypeDesc}{ks:Bool}(ht:P.underlying t=some d)(hd:jO d ks)(em:Bool)(v:Value)(w:World)(n:Nat):(Instr.checkKey em (n+1) t v).run P w=.ok () w:=by
 unfold Instr.checkKey;simp only[Sem.run_bind,run_underlying ht,Result.andThen];cases hd<;>cases v<;>simp
def mU{P:Program}{t:TypeId}{d:TypeDesc}{ks:Bool}(ht:P.underlying t=some d)(hd:jO d ks)(em:Bool)(v:Value)(w:World):(Instr.checkKey em 10000 t v).run P w=.ok () w:=Yo ht hd em v w 9999
def Oj{t:TypeId}{d:TypeDesc}{ks:Bool}(ht:X.P.underlying t=some d)(hd:jO d ks){k:PV}{u:Value}(rk:VR X g w k u)(hk:eB ks k=true){cs:List PV}{es:List MapEntry}(h:MR X g w cs es){r:Option PV}(hr:iO k cs=some r)(w':World) :
  (r=none∧(Instr.findKey t u es).run X.P w'=.ok none w'∧∀e∈es,e.key≠u)∨(∃v j e,r=some v∧(Instr.findKey t u es).run X.P w'=.ok (some (j,e.val)) w'∧es[j]?=some e∧VR X g w v e.val∧e.key=u):=by
 rcases Yn hd rk hk h 0 r hr with⟨r1,r2,r3⟩|⟨v,j,e,r1,r2,r3,r4,r5⟩
 ·exact .inl ⟨r1,by simp[Instr.findKey,run_underlying ht,r2],r3⟩
 ·refine .inr ⟨v,j,e,r1,?_,r3,r4,r5⟩;rw[cd]at r2;simp[Instr.findKey,run_underlying ht,r2]
def yT{P:Program}{t k e:TypeId}(hu:P.underlying t=some (.map k e)){z:PV}(h:kW P t z=true):∃u,(∀w,(zeroValue e).run P w=.ok u w)∧oj u z=true:=by
 unfold kW at h;rw[hu]at h;simp only at h;unfold jB at h;split at h
 ·rename_i i hi;split at h
  ·rename_i u hz;exact⟨u,fun w=>by simp[zeroValue,typeInfo,hi,hz],h⟩
  ·cases h
 ·cases h
def py{ok:Bool}{z v:PV}{u:Value}{r:Option PV}(h:VR X g w (match r with|some v=>v|none=>z) u):VR X g w (gz ok z r) (if ok then .tuple #[u,.bool r.isSome]else u):=by
 have two:∀(c:PV) (b:Bool),VR X g w c u→VR X g w (.tup [c,.bool b]) (.tuple #[u,.bool b]):=by
  intro c b hc;refine .tup _ _ rfl (fun j x y e1 e2=>?_)
  match j with
  |0=>simp at e1 e2;subst e1;subst e2;exact hc
  |1=>simp at e1 e2;subst e1;subst e2;exact .bool b
  |j+2=>simp at e1
 cases r with
 |none=>
  cases ok<;>simp only[gz,bg,if_false,if_true,Option.isSome_none]
  ·exact h
  ·exact two _ _ h
 |some v=>
  cases ok<;>simp only[gz,bg,if_false,if_true,Option.isSome_some]
  ·exact h
  ·exact two _ _ h
def Yp(hS:SR X g S w)(hF:FR X n g w fr a){ks ok:Bool}{z:PV}{x k:aG}{x' k':Operand}{t:TypeId}(ht:jk X.P t ks=true)(hz:kW X.P t z=true)(hx:aK X x' x=true)(hk:aK X k' k=true)
  (hkk:eB ks (ev fr k)=true){v:PV}(hv:(match ev fr x with
   |.nilm=>some (gz ok z none)
   |.map id=>(match S.objs[id]? with
    |some cs=>(match iO (ev fr k) cs with|some r=>some (gz ok z r)|none=>none)
    |none=>none)
   |_=>none)=some v):bk X g w a (.lookup t x' k' ok) v:=by
 intro dst ty pos after guard;obtain⟨kt,et,d,hu,hkt,hd⟩:=yS ht;obtain⟨zu,hz1,hz2⟩:=yT hu hz;have rz:VR X g w z zu:=mJ hz2;have rk:=af hF hk;have rx:=af hF hx;generalize hxu:a.eval x'=u at rx;generalize hku:a.eval k'=uk at rk;split at hv
 ·rename_i e;rw[e]at rx;cases rx;cases hv;refine⟨_,?_,py (v:=z) (u:=zu) rz⟩
  have hf:(Instr.findKey kt uk []).run X.P w=.ok none w:=by
   rcases Oj hkt hd rk hkk (.nil:MR X g w [] []) (r:=none) rfl w with⟨_,r2,_⟩|⟨_,_,_,r1,_⟩
   ·exact r2
   ·cases r1
  simp[execOp,hxu,hku,Instr.lookup,run_underlying hu,mU hkt hd,hf,hz1]
  try (cases ok<;>rfl)
 ·rename_i id e;rw[e]at rx
  cases rx with
  |map _ b hb=>
   obtain⟨cs,es,clock,h1,h2,h3,h4⟩:=hS.maps.ent id b hb;rw[h1]at hv;simp only at hv;split at hv
   ·rename_i r hr;cases hv;rcases Oj hkt hd rk hkk h4 hr w with⟨rfl,r2,_⟩|⟨v',j,e',rfl,r2,_,r4,_⟩
    ·refine⟨_,?_,py (v:=z) (u:=zu) rz⟩;simp[execOp,hxu,hku,Instr.lookup,run_underlying hu,MapKept.run_getObj_map h2,mU hkt hd,r2,hz1]
     try (cases ok<;>rfl)
    ·refine⟨_,?_,py (v:=v') (u:=e'.val) r4⟩;simp[execOp,hxu,hku,Instr.lookup,run_underlying hu,MapKept.run_getObj_map h2,mU hkt hd,r2]
     try (cases ok<;>rfl)
   ·cases hv
 ·cases hv
def Yq{cs:List PV}{es:List MapEntry}(h:MR X g w cs es):cs.length/2=es.length:=by
 induction h with
 |nil=>rfl
 |mark=>simp
 |cons _ _ _ _ _ _ _ _ _ ih=>simp only[bE]at ih ⊢;omega
def Yr(hS:SR X g S w)(hF:FR X n g w fr a){x:aG}{c:Go.Call}{x':Operand}{t:TypeId}(hc:c.callee=.builtin .len)(ha:c.args.toList=[x'])(hts:c.argTypes.toList=[t])
  (ht:(match X.P.underlying t with|some (.map _ _)=>true|_=>false)=true)(hx:aK X x' x=true){v:PV}(hv:(match ev fr x with
  |.nilm=>some (PV.int .i64 0)
  |.map id=>(match S.objs[id]? with|some cs=>some (.int .i64 ((cs.length/2:Nat):Int))|none=>none)
  |_=>none)=some v):bk X g w a (.call c) v:=by
 intro dst ty pos after guard;have rx:=af hF hx;generalize hxu:a.eval x'=u at rx;obtain⟨consts,hbr⟩:=lA (a:=a) hc dst ty pos after guard;split at ht
 ·rename_i k e hu;split at hv
  ·rename_i e;rw[e]at rx;cases rx;cases hv;refine⟨.int .i64 0,?_,.int _ _⟩;rw[hbr,ng ha,nh hts];simp[builtin,hxu,Builtin.len_,run_underlying hu,goInt]
  ·rename_i id e;rw[e]at rx
   cases rx with
   |map _ b hb=>
    obtain⟨cs,es,clock,h1,h2,h3,h4⟩:=hS.maps.ent id b hb;rw[h1]at hv;cases hv;have hl:=Yq h4;refine⟨_,?_,.int _ _⟩;rw[hbr,ng ha,nh hts];have:cs.length/2=es.size:=by rw[hl];simp
    simp[builtin,hxu,Builtin.len_,run_underlying hu,MapKept.run_getObj_map h2,goInt,this]
  ·cases hv
 ·cases ht
def mV(hS:SR X g S w){id b:Nat}(hid:g.mp id=some b){cs:List PV}(hcs:S.objs[id]?=some cs)(he:cs.length%2=0):g.mfz b=false:=by
 rw[oL];intro h;obtain⟨id',cs',h1,h2,h3⟩:=hS.maps.fz b h;have:=hS.maps.inj _ _ _ h1 hid;subst this;rw[hcs]at h2;cases h2;omega
theorem yU{k v:PV}:∀{cs ds:List PV},fg k v cs=some ds→cs.length%2=0
 | [],_,_=>rfl
 | [_],_,h=>by simp[fg]at h
 |q::u::r,ds,h=>by
  simp only[fg]at h;split at h
  ·split at h
   ·simp only[bE];omega
   ·cases h
  ·split at h
   ·rename_i s hs;have:=yU hs;simp only[bE];omega
   ·cases h
  ·cases h
theorem Ol{k:PV}:∀{cs ds:List PV},jF k cs=some ds→cs.length%2=0
 | [],_,_=>rfl
 | [_],_,h=>by simp[jF]at h
 |q::u::r,ds,h=>by
  simp only[jF]at h;split at h
  ·split at h
   ·simp only[bE];omega
   ·cases h
  ·split at h
   ·rename_i s hs;have:=Ol hs;simp only[bE];omega
   ·cases h
  ·cases h
def mX(hS:SR X g S w){id b:Nat}(hid:g.mp id=some b){es es':Array MapEntry}{clock clock':Nat}(hb:w.heap[b]?=some (.map es clock))(hst:MapKept.Stamped es' clock'){ds:List PV}(hlt:id<S.objs.length)(hmr:MR X g w ds es'.toList)(hnf:g.mfz b=false) :
  Le g w g {w with heap:=w.heap.setIfInBounds b (.map es' clock')}∧SR X g {S with objs:=S.objs.set id ds} {w with heap:=w.heap.setIfInBounds b (.map es' clock')}:=by
 have hbl:b<w.heap.size:=(bc.1 hb).1;have other:∀b',b'≠b→(w.heap.setIfInBounds b (.map es' clock'))[b']?=w.heap[b']?:=fun b' hne=>fJ (Ne.symm hne);have hpub:=(hS.maps.pub id b hid).1;have hcell:∀{b':Nat} {us:Array Value} {t:TypeId} {fz:Nat×Nat},w.heap[b']?=some (.cells us t fz)→b'≠b:=fun h e=>by subst e;rw[hb]at h;cases h
 have hle:Le g w g {w with heap:=w.heap.setIfInBounds b (.map es' clock')}:={
  os:=rfl,tape:=rfl,output:=rfl
  size:=by simp
  obj:=fun _ _ h=>h,arr:=fun _ _ h=>h,asz:=fun _ _ h=>h,pub:=fun _=>aR _
  cell:=fun b' j hj=>by
   have hne:b'≠b:=fun e=>by subst e;rw[hpub]at hj;omega
   simp only[World.cell?,other b' hne]
  shape:=fun b' us t fz h=>⟨us,by simp only;rw[other b' (hcell h)];exact h,rfl⟩
  objN:=fun id _ h=>.inl ⟨id,h⟩,arrN:=fun _ _ h=>.inl h
  keep:=fun b' _ _ _ hm=>other b' (fun e=>by subst e;exact hm id hid)
  pubN:=fun _ _ _ _ _=>rfl
  mp:=fun _ _ h=>h,mpN:=fun _ _ h=>.inl h
  mf:=fun b' es c h e=>⟨h,by
   simp only;rw[other b' (fun q=>by subst q;rw[hnf]at h;cases h)];exact e⟩}
 obtain⟨hij,hop⟩:=tD hS (S':={S with objs:=S.objs.set id ds}) (fun i b' h=>by
  have hne:i≠id:=fun e=>by subst e;exact hS.maps.dis _ _ _ hid h
  simp only;rw[bq (Ne.symm hne)])
 refine⟨hle,⟨fun i b' h=>?_,hij,hop,hS.arr,hS.asz,fun b' hb'=>hS.lt b' (by simpa using hb'),⟨fun i b' h=>?_,hS.maps.inj,hS.maps.pub,hS.maps.dis,fun b' h=>?_⟩,hS.gl.le hle⟩⟩
 ·obtain⟨cs,us,t,h1,⟨fz,h2,hf⟩,h3,h4⟩:=hS.obj i b' h;have hne:i≠id:=fun e=>by subst e;exact hS.maps.dis _ _ _ hid h
  exact⟨cs,us,t,by simp[bq (Ne.symm hne),h1],⟨fz,by simp only;rw[other b' (hcell h2)];exact h2,hf⟩,h3,fun j c u e1 e2=>(h4 j c u e1 e2).mono hle⟩
 ·by_cases hi:i=id
  ·subst hi;rw[hid]at h;cases h;exact⟨ds,es',clock',by simp[hlt],by simp[hbl],hst,hmr.imp (fun c u r=>r.mono hle)⟩
  ·obtain⟨cs,es2,cl2,h1,h2,h3,h4⟩:=hS.maps.ent i b' h;have hne:b'≠b:=fun e=>by subst e;exact hi (hS.maps.inj i id _ h hid)
   exact⟨cs,es2,cl2,by simp[bq (Ne.symm hi),h1],by simp only;rw[other b' hne];exact h2,h3,h4.imp (fun c u r=>r.mono hle)⟩
 ·obtain⟨i,cs,h1,h2,h3⟩:=hS.maps.fz b' h;have hne:i≠id:=fun e=>by subst e;rw[hid]at h1;cases h1;rw[hnf]at h;cases h
  exact⟨i,cs,h1,by simp only;rw[bq (Ne.symm hne)];exact h2,h3⟩
def Ys{ks:Bool}{k:PV}{u:Value}(rk:VR X g w k u)(hk:eB ks k=true)(w':World):(Instr.keyThatStays u u).run X.P w'=.ok u w':=by
 cases ks<;>cases k<;>simp only[eB]at hk<;>try (cases hk;done)
 ·cases rk;rename_i j n;exact MapKept.run_keyThatStays (d:=.int j) rfl
 ·cases rk;exact MapKept.run_keyThatStays (d:=.string) trivial
def Yt{d:TypeDesc}{ks:Bool}(hd:jO d ks){k v:PV}{u x:Value}(rk:VR X g w k u)(hk:eB ks k=true)(rv:VR X g w v x){cs:List PV}{es:List MapEntry}(h:MR X g w cs es):∀(i:Nat) (ds:List PV),fg k v cs=some ds →
  (Instr.findNow d u es i=some none∧(∀e∈es,e.key≠u)∧∀born,MR X g w ds (es++[{key:=u,val:=x,born}])) ∨
  (∃j e,Instr.findNow d u es i=some (some (i+j,e.val))∧es[j]?=some e∧e.key=u∧MR X g w ds (es.set j {e with key:=u,val:=x})):=by
 induction h with
 |nil=>
  intro i ds hds;simp only[fg,ae]at hds;subst hds
  exact .inl ⟨rfl,by simp,fun born=>.cons k v [] _ [] rk (Oi hk) rv .nil⟩
 |mark=>intro i ds hds;simp[fg]at hds
 |cons q z cs e es hq hqq hz hcs ih=>
  intro i ds hds;simp only[fg]at hds;split at hds
  ·rename_i hb;split at hds<;>cases hds;obtain⟨h1,h2⟩:=nm hd rk hk hq hb;exact .inr ⟨0,e,by simp[Instr.findNow,h1],rfl,h2.1 rfl,.cons k v cs _ es rk (Oi hk) rv hcs⟩
  ·rename_i hb;obtain⟨h1,h2⟩:=nm hd rk hk hq hb;have hne:e.key≠u:=fun z=>by have:=h2.2 z;cases this
   split at hds
   ·rename_i s hs;cases hds;rcases ih (i+1) s hs with⟨r2,r3,r4⟩|⟨j,e',r2,r3,r4,r5⟩
    ·refine .inl ⟨by simp[Instr.findNow,h1,r2],fun x hx=>?_,fun born=>.cons q z s e _ hq hqq hz (r4 born)⟩;rcases cY.1 hx with rfl|hx
     ·exact hne
     ·exact r3 x hx
    ·exact .inr ⟨j+1,e',by simp[Instr.findNow,h1,r2];omega,by simpa using r3,r4,.cons q z s e _ hq hqq hz r5⟩
   ·cases hds
  ·cases hds
def Yu{d:TypeDesc}{ks:Bool}(hd:jO d ks){k:PV}{u:Value}(rk:VR X g w k u)(hk:eB ks k=true){cs:List PV}{es:List MapEntry}(h:MR X g w cs es):∀(i:Nat) (ds:List PV),jF k cs=some ds →
  (Instr.findNow d u es i=some none∧MR X g w ds es) ∨
  (∃(j:Nat) (e:MapEntry),Instr.findNow d u es i=some (some (i+j,e.val))∧j<es.length∧MR X g w ds (es.eraseIdx j)):=by
 induction h with
 |nil=>
  intro i ds hds;simp only[jF,ae]at hds;subst hds
  exact .inl ⟨rfl,.nil⟩
 |mark=>intro i ds hds;simp[jF]at hds
 |cons q z cs e es hq hqq hz hcs ih=>
  intro i ds hds;simp only[jF]at hds;split at hds
  ·rename_i hb;split at hds<;>cases hds;obtain⟨h1,h2⟩:=nm hd rk hk hq hb;exact .inr ⟨0,e,by simp[Instr.findNow,h1],by simp,hcs⟩
  ·rename_i hb;obtain⟨h1,h2⟩:=nm hd rk hk hq hb;split at hds
   ·rename_i s hs;cases hds;rcases ih (i+1) s hs with⟨r2,r3⟩|⟨j,e',r2,r3,r4⟩
    ·exact .inl ⟨by simp[Instr.findNow,h1,r2],.cons q z s e es hq hqq hz r3⟩
    ·exact .inr ⟨j+1,e',by simp[Instr.findNow,h1,r2];omega,by simp;omega,.cons q z s e _ hq hqq hz r4⟩
   ·cases hds
  ·cases hds
def sj{t:TypeId}{d:TypeDesc}(ht:X.P.underlying t=some d){u:Value}{es:List MapEntry}{r:Option (Nat×Value)}(h:Instr.findNow d u es 0=some r)(w':World):(Instr.findKey t u es).run X.P w'=.ok r w':=by
 simp[Instr.findKey,run_underlying ht,h]
def Om(hS:SR X g S w)(hF:FR X n g w fr a){ks:Bool}{x k v:aG}{x' k' v':Operand}{t:TypeId}{id:Nat}{cs ds:List PV}(ht:jk X.P t ks=true)(hx:aK X x' x=true)(hk:aK X k' k=true)(hv:aK X v' v=true)
  (he:ev fr x=.map id)(hcs:S.objs[id]?=some cs)(hkk:eB ks (ev fr k)=true)(hds:fg (ev fr k) (ev fr v) cs=some ds) :
  dV X g w a (.mapUpdate t x' k' v') {S with objs:=S.objs.set id ds} .und:=by
 intro dst ty pos after guard next Q hn
 obtain⟨kt,et,d,hu,hkt,hd⟩:=yS ht;have rk:=af hF hk;have rx:=af hF hx;have rv:=af hF hv;rw[he]at rx;generalize hxu:a.eval x'=u at rx;generalize hku:a.eval k'=uk at rk;generalize hvu:a.eval v'=uv at rv
 cases rx with
 |map _ b hb=>
  obtain⟨cs',es,clock,h1,h2,h3,h4⟩:=hS.maps.ent id b hb;rw[hcs]at h1;cases h1;have hlt:=(aL.1 hcs).1;rcases Yt hd rk hkk rv h4 0 ds hds with⟨r2,r3,r4⟩|⟨j,e,r2,r3,r4,r5⟩
  ·have hst:=MapKept.stamped_push h3 (key:=uk) (val:=uv) r3;obtain⟨hle,hS'⟩:=mX hS hb h2 hst hlt (ds:=ds) (by simpa using r4 clock) (mV hS hb hcs (yU hds));unfold Oper.wp
   have er:(execOp a.eval ⟨dst,.mapUpdate t x' k' v',ty,pos,after,guard⟩).run X.P w=.ok .skip {w with heap:=w.heap.setIfInBounds b (.map (es.push {key:=uk,val:=uv,born:=clock}) (clock+1))}:=by
    simp[execOp,hxu,hku,hvu,Instr.mapUpdate,run_underlying hu,MapKept.run_getObj_map h2,mU hkt hd,sj hkt r2,MapKept.run_setObj_map _ h2]
   rw[er];exact hn undef _ ⟨g,hle,hS',.und _⟩
  ·rw[cd]at r2;have hje:es[j]?=some e:=by simpa using r3
   have hst:=MapKept.stamped_modify h3 j (fun e=>{e with key:=uk,val:=uv}) (fun _ _=>rfl) (fun e' _ h=>by rw[hje]at h;cases h;exact r4.symm)
   have hset:(es.modify j (fun e=>{e with key:=uk,val:=uv})).toList=es.toList.set j {e with key:=uk,val:=uv}:=by
    apply lP;intro i;have hjl:j<es.toList.length:=(aL.1 r3).1;simp only[jS,lO];by_cases hij:j=i
    ·subst hij;rw[if_pos rfl,hje,dd hjl];rfl
    ·rw[if_neg hij,bq hij];simp
   obtain⟨hle,hS'⟩:=mX hS hb h2 hst hlt (ds:=ds) (by rw[hset];exact r5) (mV hS hb hcs (yU hds));unfold Oper.wp;have hstay:=fun w'=>Ys rk hkk w'
   have er:(execOp a.eval ⟨dst,.mapUpdate t x' k' v',ty,pos,after,guard⟩).run X.P w=.ok .skip {w with heap:=w.heap.setIfInBounds b (.map (es.modify j (fun e=>{e with key:=uk,val:=uv})) clock)}:=by
    simp[execOp,hxu,hku,hvu,Instr.mapUpdate,run_underlying hu,MapKept.run_getObj_map h2,mU hkt hd,sj hkt r2,MapKept.run_setObj_map _ h2,hje,r4,hstay]
   rw[er];exact hn undef _ ⟨g,hle,hS',.und _⟩
def Yv(hS:SR X g S w)(hF:FR X n g w fr a){ks:Bool}{x k:aG}{c:Go.Call}{x' k':Operand}{t t2:TypeId}{id:Nat}{cs ds:List PV}(hc:c.callee=.builtin .delete)(ha:c.args.toList=[x',k'])(hts:c.argTypes.toList=[t,t2])
  (ht:jk X.P t ks=true)(hx:aK X x' x=true)(hk:aK X k' k=true)
  (he:ev fr x=.map id)(hcs:S.objs[id]?=some cs)(hkk:eB ks (ev fr k)=true)(hds:jF (ev fr k) cs=some ds) :
  dV X g w a (.call c) {S with objs:=S.objs.set id ds} (.tup []):=by
 intro dst ty pos after guard next Q hn
 obtain⟨kt,et,d,hu,hkt,hd⟩:=yS ht;have rk:=af hF hk;have rx:=af hF hx;rw[he]at rx;generalize hxu:a.eval x'=u at rx;generalize hku:a.eval k'=uk at rk;obtain⟨consts,hbr⟩:=lA (a:=a) hc dst ty pos after guard
 cases rx with
 |map _ b hb=>
  obtain⟨cs',es,clock,h1,h2,h3,h4⟩:=hS.maps.ent id b hb;rw[hcs]at h1;cases h1;have hlt:=(aL.1 hcs).1
  have fin:∀es',MapKept.Stamped es' clock→MR X g w ds es'.toList →
    ((execOp a.eval ⟨dst,.call c,ty,pos,after,guard⟩).run X.P w=.ok (.value (.tuple #[])) {w with heap:=w.heap.setIfInBounds b (.map es' clock)}) →
    (Oper.mk dst (.call c) ty pos after guard).wp X.P a w next Q:=by
   intro es' hst hmr er;obtain⟨hle,hS'⟩:=mX hS hb h2 hst hlt (ds:=ds) hmr (mV hS hb hcs (Ol hds));unfold Oper.wp;rw[er];exact hn (.tuple #[]) _ ⟨g,hle,hS',.tup [] #[] rfl (fun j c u h=>by simp at h)⟩
  rcases Yu hd rk hkk h4 0 ds hds with⟨r2,r4⟩|⟨j,e,r2,r3,r4⟩
  ·refine fin es h3 r4 ?_;rw[hbr,pj ha,sQ hts];simp[builtin,hxu,hku,Builtin.delete_,run_underlying hu,MapKept.run_getObj_map h2,mU hkt hd,sj hkt r2,MapKept.run_setObj_map _ h2]
  ·rw[cd]at r2;refine fin (es.eraseIdxIfInBounds j) (MapKept.stamped_erase h3 j) ?_ ?_
   ·have hjl:j<es.size:=by simpa using r3
    have:(es.eraseIdxIfInBounds j).toList=es.toList.eraseIdx j:=by simp[Array.eraseIdxIfInBounds,hjl]
    rw[this];exact r4
   ·rw[hbr,pj ha,sQ hts];simp[builtin,hxu,hku,Builtin.delete_,run_underlying hu,MapKept.run_getObj_map h2,mU hkt hd,sj hkt r2,MapKept.run_setObj_map _ h2]
def Yw (hS:SR X g S w) {cs:List PV} {es:Array MapEntry} {clock:Nat} (hst:MapKept.Stamped es clock) (hmr:MR X g w cs es.toList):bu X g w {S with objs:=S.objs++[cs]} (.map S.objs.length) (.map (some w.heap.size)) (w.alloc (.map es clock)):=by
 have hnew:g.mp S.objs.length=none:=by
  cases h:g.mp S.objs.length with
  |none=>rfl
  |some b=>
   obtain⟨_,_,_,h1,_⟩:=hS.maps.ent _ _ h;rw[cr (aR _)]at h1;cases h1
 have hnewo:g.obj S.objs.length=none:=by
  cases h:g.obj S.objs.length with
  |none=>rfl
  |some b=>
   obtain⟨_,_,_,h1,_⟩:=hS.obj _ _ h;rw[cr (aR _)]at h1;cases h1
 let g':Gh:={g with mp:=fun i=>if i=S.objs.length then some w.heap.size else g.mp i}
 have hle:Le g w g' (w.alloc (.map es clock)):=lB rfl rfl rfl rfl hS.lt (fun _ _ h=>h) (fun _ _ h=>.inl h) (fun _ _ h=>h) (fun _ _ h=>.inl h) (fun _ _ h=>h) (fun _ _=>rfl)
  (fun i b h=>by simp only[g'];rw[if_neg (fun e=>by subst e;rw[hnew]at h;cases h)];exact h)
  (fun i b h=>by
   simp only[g']at h;split at h
   ·cases h;exact .inr rfl
   ·exact .inl h)
 have hbl:=fi hS
 obtain⟨hij,hop⟩:=tD hS (S':={S with objs:=S.objs++[cs]}) (fun i b h=>by
  simp only;rw[aw (kD hS i b h)])
 refine⟨g',hle,⟨fun i b h=>?_,hij,hop,hS.arr,hS.asz,fun b hb=>hS.lt b (by simp at hb;omega),⟨fun i b h=>?_,fun i j b h1 h2=>?_,fun i b h=>?_,fun i b c h1 h2=>?_,fun b h=>?_⟩,hS.gl.le hle⟩,.map _ _ (by simp[g'])⟩
 ·obtain⟨cs',us',t',h1,h2,h3,h4⟩:=hS.obj i b h;have:=hbl i b h;refine⟨cs',us',t',?_,by rw[World.alloc,cj,if_neg (by omega)];exact h2,h3,fun j c u e1 e2=>(h4 j c u e1 e2).mono hle⟩;simp only;rw[aw (aL.1 h1).1];exact h1
 ·simp only[g']at h;split at h
  ·rename_i e;subst e;cases h;exact⟨cs,es,clock,by simp,by rw[World.alloc,cj,if_pos rfl],hst,hmr.imp (fun c u r=>r.mono hle)⟩
  ·obtain⟨cs',es',cl',h1,h2,h3,h4⟩:=hS.maps.ent i b h;have:=hS.maps.lt h;refine⟨cs',es',cl',?_,by rw[World.alloc,cj,if_neg (by omega)];exact h2,h3,h4.imp (fun c u r=>r.mono hle)⟩;simp only;rw[aw (aL.1 h1).1];exact h1
 ·simp only[g']at h1 h2;split at h1<;>split at h2
  ·omega
  ·cases h1;have:=hS.maps.lt h2;omega
  ·cases h2;have:=hS.maps.lt h1;omega
  ·exact hS.maps.inj i j b h1 h2
 ·simp only[g']at h;split at h
  ·cases h;exact hS.lt _ (aR _)
  ·exact hS.maps.pub i b h
 ·simp only[g']at h1;split at h1
  ·rename_i e;subst e;rw[hnewo]at h2;cases h2
  ·exact hS.maps.dis i b c h1 h2
 ·obtain⟨i,cs',h1,h2,h3⟩:=hS.maps.fz b h;have hlt:=(aL.1 h2).1;exact⟨i,cs',by simp only[g'];rw[if_neg (by omega)];exact h1,by simp only;rw[aw hlt];exact h2,h3⟩
def Yx (hS:SR X g S w) {t:TypeId}:dV X g w a (.makeMap t none) {S with objs:=S.objs++[[]]} (.map S.objs.length):=by
 intro dst ty pos after guard next Q hn
 unfold Oper.wp
 have er:(execOp a.eval ⟨dst,.makeMap t none,ty,pos,after,guard⟩).run X.P w=.ok (.value (.map (some w.heap.size))) (w.alloc (.map #[] 0)):=by
  simp[execOp,Instr.makeMap]
 rw[er];exact hn _ _ (Yw hS (es:=#[]) (clock:=0) (MapKept.stamped_empty 0) .nil)
def Yy{v:PV}{y z l:Nat}(h:dh y v=some l)(hz:y≤z):dh z v=some l:=by
 cases v<;>simp only[dh]at h ⊢<;> try (cases h;done)
 split at h
 ·rename_i hb;cases h;rw[if_pos (by omega)]
 ·cases h
def On(hF:FR X n g w fr a){lo:Option aG}{lo':Option Operand}(hlo:eK X lo' lo=true){hi mx:PV}{uh um:Value}(rh:VR X g w hi uh)(rm:VR X g w mx um)
  {len cap0 cap m h l:Nat}(hm:dh cap0 mx=some m)(hc:cap0≤cap)(hh:dh m hi=some h)(hl:iN h (bj fr lo)=some l) :
  (Instr.sliceBounds true len cap (lo'.map a.eval) (some uh) (some um)).run X.P w=.ok (l,h,m) w∧l≤h∧h≤m∧m≤cap0:=by
 obtain⟨m1,_⟩:=kw (code:=.slice3Acap) rm (Yy hm hc);obtain⟨_,m2⟩:=kw (X:=X) (code:=.slice3Acap) rm hm;obtain⟨h1,h2⟩:=kw (code:=.slice3B) rh hh
 have hL:∃L,(match lo'.map a.eval with|some v=>Instr.sliceBound v h .slice3C|none=>pure 0).run X.P w=.ok L w∧iN h (bj fr lo)=some L∧L≤h:=by
  cases lo<;>cases lo'<;>simp only[eK]at hlo<;>try (cases hlo;done)
  ·exact⟨0,by simp,rfl,bh _⟩
  ·rename_i y x;have r:=af hF hlo
   cases hbd:dh h (ev fr y)with
   |none=>simp[iN,bj,hbd]at hl
   |some L=>
    obtain⟨h1,h2⟩:=kw (code:=.slice3C) r hbd;exact⟨L,by simpa using h1,hbd,h2⟩
 obtain⟨L,hrunL,heqL,hLh⟩:=hL;rw[hl]at heqL;cases heqL;refine⟨?_,hLh,h2,m2⟩;cases lo'<;>simp_all[Instr.sliceBounds]
def Yz(hS:SR X g S w)(hF:FR X n g w fr a){sz:Nat}{lo:Option aG}{hi mx x:aG}{lo':Option Operand}{hi' mx' x':Operand}{t:TypeId}(ht:kT X.P t sz=true)(hx:aK X x' x=true)
  (hlo:eK X lo' lo=true)(hhi:aK X hi' hi=true)(hmx:aK X mx' mx=true){v:PV}{S':St}(h:rb S sz (bj fr lo) (ev fr hi) (ev fr mx) (ev fr x)=some (v,S')) :
  dV X g w a (.slice t x' lo' (some hi') (some mx')) S' v:=by
 intro dst ty pos after guard next Q hn
 have r1:=af hF hx;have rh:=af hF hhi;have rm:=af hF hmx;obtain⟨e,ie,hu,hie,hsz⟩:=xr ht;have hsize:(Go.sizeOf e).run X.P w=.ok sz w:=by simp[Go.sizeOf,typeInfo,hie,hsz]
 unfold rb at h;split at h
 ·rename_i e1;rw[e1]at r1;generalize hu1:a.eval x'=u1 at r1;cases r1;split at h
  ·rename_i m0 h0 l0 q1 q2 q3;cases h;have hm0:m0=0:=by have:=(kw (X:=X) (code:=.slice3Acap) rm q1).2;omega
   subst hm0
   obtain⟨hrun,k1,k2,k3⟩:=On (len:=0) (cap:=0) hF hlo rh rm q1 (aR _) q2 (by
    have:h0=0:=by have:=(kw (X:=X) (code:=.slice3Acap) rh q2).2;omega
    subst this;exact q3)
   have e0:h0=0:=by omega
   have e2:l0=0:=by omega
   subst e0;subst e2;unfold Oper.wp
   have er:(execOp a.eval ⟨dst,.slice t x' lo' (some hi') (some mx'),ty,pos,after,guard⟩).run X.P w=.ok (.value (.slice none 0 0)) w:=by
    simp[execOp,hu1,Instr.sliceAt,run_underlying hu,Instr.slice,hrun,hsize]
   rw[er];exact hn _ _ ⟨g,Le.refl g w,hS,.nils⟩
  ·cases h
 ·rename_i tip es sp e1;rw[e1]at r1;split at h
  ·rename_i hcond;obtain⟨hok,hpos⟩:=hcond;split at h
   ·rename_i m q1;split at h
    ·rename_i hh q2;split at h
     ·rename_i l q3;split at h
      ·rename_i hmh;subst hmh;cases h;generalize hu1:a.eval x'=u1 at r1
       cases r1 with
       |sl _ _ _ b o cap sz' us hcap hpos' hszs hpub hc hvs hlink hone=>
        obtain⟨hrun,k1,k2,k3⟩:=On (len:=es.length) (cap:=cap) hF hlo rh rm q1 (by omega) q2 q3
        have hszq:sz'=sz∨es++sp=[]:=by
         cases hes:es++sp with
         |nil=>exact .inr rfl
         |cons y l'=>
          left;have h1:=hszs y (by rw[hes];simp);rw[hes]at hok;simp only[gS,beq_iff_eq]at hok;omega
        have hlen:(((es++sp).take m).drop l).length=m-l:=by simp;omega
        have hmemsz:∀y∈((es++sp).take m).drop l,y.cells.length=sz:=by
         intro y hy;have hy':=jV (fo hy);rcases hszq with q|q
         ·rw[←q];exact hszs y hy'
         ·rw[q]at hy';cases hy'
        have hmemone:∀y∈((es++sp).take m).drop l,y.cells.all PV.one=true:=fun y hy=>hone y (jV (fo hy));let g':Gh:={g with asz:=fun i=>if i=S.tips.length then some sz else g.asz i}
        have hasz:∀i m,g.asz i=some m→g'.asz i=some m:=fun i m h=>by
         simp only[g'];rw[if_neg (fun e=>by subst e;rw[yC hS]at h;cases h)];exact h
        have hle:Le g w g' w:=⟨rfl,rfl,rfl,aR _,fun _ _ h=>h,fun _ _ h=>h,hasz,fun _=>aR _,fun _ _ _=>rfl,fun _ us _ _ h=>⟨us,h,rfl⟩,fun id _ h=>.inl ⟨id,h⟩,fun _ _ h=>.inl h,
         fun _ _ _ _ _=>rfl,fun _ _ _ _ _=>rfl,fun _ _ h=>h,fun _ _ h=>.inl h,fun _ _ _ h e=>⟨h,e⟩⟩
        have hS':SR X g' {S with tips:=S.tips++[(m-l+1,sz)]} w:=by
         refine⟨fun i b h=>?_,hS.inj,hS.objpub,fun b id base h=>?_,fun i q h=>?_,hS.lt,hS.maps.of (fun _ _ h=>h) (fun _ _ _=>rfl) (fun _ _ _=>rfl) (fun c u r=>r.mono hle) (fun _ _ _=>⟨rfl,rfl⟩) (fun _ _ _ _ h=>h),hS.gl.le hle⟩
         ·obtain⟨cs',us',t',h1,h2,h3,h4⟩:=hS.obj i b h;exact⟨cs',us',t',h1,h2,h3,fun j c u e1 e2=>(h4 j c u e1 e2).mono hle⟩
         ·obtain⟨sz2,tip2,h1,h2,h3,h4⟩:=hS.arr b id base h;exact⟨sz2,tip2,hasz _ _ h1,h2,by simp only;rw[aw (aL.1 h3).1];exact h3,h4⟩
         ·simp only[g']at h;split at h
          ·rename_i hi;cases h;subst hi;exact⟨m-l+1,by simp⟩
          ·obtain⟨tip2,h3⟩:=hS.asz i q h;exact⟨tip2,by simp only;rw[aw (aL.1 h3).1];exact h3⟩
        have hvals:VR X g' w (.sl (some (S.tips.length,m-l+1)) (((es++sp).take m).drop l) []) (.slice (some (if m=l then⟨b,o,none⟩else⟨b,o+l*sz',none⟩)) (m-l) (m-l)):=by
         by_cases hml:m=l
         ·have hnil:((es++sp).take m).drop l=[]:=fW.1 (by omega);rw[hnil,if_pos hml]
          have:=VR.sl (X:=X) (g:=g') (w:=w) (some (S.tips.length,m-l+1)) [] [] b o (m-l) sz us (by simp) hpos (by simp) (by show o+_≤g.pub b;simp;have:=bh ((es.length+sp.length)*sz');omega) (by simp) (by simp)
           (fun id e' hte _=>by cases hte;exact⟨by simp,by simp[g'],.inl ⟨by simp;omega,.inl rfl⟩⟩) (by simp)
          simpa[hml]using this
         ·rw[if_neg hml]
          have hsz':sz'=sz:=hszq.resolve_right (fun q=>by
           have:es.length+sp.length=0:=by rw[←ak,q];rfl
           omega)
          subst hsz'
          have hflat:(((es++sp).take m).drop l).flatMap PV.cells=(((es++sp).flatMap PV.cells).drop (l*sz')).take ((m-l)*sz'):=by
           have hs1:∀y∈es++sp,y.cells.length=sz':=hszs;apply lP;intro j;by_cases hj:j<(m-l)*sz'
           ·rw[cT hj,gK];have hq:j/sz'<m-l:=by rw[mq hpos];exact hj
            have hr:j%sz'<sz':=io _ hpos;obtain⟨y,hy⟩:∃y,(es++sp)[l+j/sz']?=some y:=⟨_,bK (by simp;omega)⟩
            have hy2:(((es++sp).take m).drop l)[j/sz']?=some y:=by
             rw[gK,cT (by omega)];exact hy
            have e1:=ky hmemsz (i:=j/sz') hy2 (j%sz') hr;have e2:=ky hs1 (i:=l+j/sz') hy (j%sz') hr;have ej:j/sz'*sz'+j%sz'=j:=by rw[mr];exact qn _ _
            rw[ej]at e1;rw[cu,fq,ej]at e2;rw[e1,e2]
           ·rw[cr (by rw[gV hmemsz,hlen];omega),cr (by simp;omega)]
          have htot:l*sz'+(m-l)*sz'≤(es.length+sp.length)*sz':=by
           rw[←cu];exact gM _ (by omega)
          have:=VR.sl (X:=X) (g:=g') (w:=w) (some (S.tips.length,m-l+1)) (((es++sp).take m).drop l) [] b (o+l*sz') (m-l) sz' (fun j=>us (l*sz'+j)) (by simp;omega) hpos (by simpa using hmemsz)
           (by rw[hlen];simp only[cP,eo,g'];omega) (fun j hj=>by
            rw[hlen]at hj;simp only[cP,eo]at hj;rw[fq];exact hc (l*sz'+j) (by omega)) (fun j c hjc=>by
            rw[dn,hflat]at hjc
            have hj:j<(m-l)*sz':=by
             rcases iH j ((m-l)*sz')with h|h
             ·exact h
             ·rw[cr (by simp;omega)]at hjc;cases hjc
            rw[cT hj,gK]at hjc;exact(hvs _ c hjc).mono hle) (fun id e' hte _=>by cases hte;exact⟨by omega,by simp[g'],.inl ⟨by omega,.inr (by omega)⟩⟩) (by simpa using hmemone)
          rw[hlen]at this;exact this
        have hadd:(if m=l then(some (⟨b,o,none⟩:Addr))else some ((⟨b,o,none⟩:Addr).add (l*sz)))=some (if m=l then⟨b,o,none⟩else⟨b,o+l*sz',none⟩):=by
         split
         ·rfl
         ·simp only[eV];rcases hszq with rfl|q
          ·rfl
          ·have:es.length+sp.length=0:=by rw[←ak,q];rfl
           omega
        unfold Oper.wp
        have er:(execOp a.eval ⟨dst,.slice t x' lo' (some hi') (some mx'),ty,pos,after,guard⟩).run X.P w=.ok (.value (.slice (some (if m=l then⟨b,o,none⟩else⟨b,o+l*sz',none⟩)) (m-l) (m-l))) w:=by
         simp only[execOp,Sem.run_bind,hu1,Instr.sliceAt,run_underlying hu,Result.andThen_ok,Instr.slice,ip,hrun,hsize,Sem.run_pure];rw[hadd]
        rw[er];exact hn _ _ ⟨g',hle,hS',hvals⟩
      ·cases h
     ·cases h
    ·cases h
   ·cases h
  ·cases h
 ·cases h
end
end Ps
